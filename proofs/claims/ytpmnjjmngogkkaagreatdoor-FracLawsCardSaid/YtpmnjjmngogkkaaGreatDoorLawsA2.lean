/- Plus Plus2 Pars Rdq Fld New Fits StrR Parse Read IsDig IParse Cut RParse One Ratio Gh -/
import Derived.Test.YtpmnjjmngogkkaaGreatDoorRef6
import Derived.Test.YtpmnjjmngogkkaaGreatDoorRat2
import Derived.Test.YtpmnjjmngogkkaaGreatDoorEq
import Derived.Test.YtpmnjjmngogkkaaGreatDoorDec
import Derived.Lib.ItoaNum
import Derived.Test.YtpmnjjmngogkkaaGreatDoorVec2
import Derived.Test.YtpmnjjmngogkkaaGreatDoorKept
import Derived.Test.YtpmnjjmngogkkaaGreatDoorOps2
import Derived.Test.YtpmnjjmngogkkaaGreatDoorInt4
import Derived.Test.YtpmnjjmngogkkaaGreatDoorRef5
import Derived.Test.YtpmnjjmngogkkaaGreatDoorForm
import Derived.Test.YtpmnjjmngogkkaaGreatDoorStr
import Derived.Test.YtpmnjjmngogkkaaGreatDoorRef1
import Derived.Test.YtpmnjjmngogkkaaGreatDoorShelf2
import Derived.Test.YtpmnjjmngogkkaaGreatDoorTry
import Derived.Lib.IndexLaws
import Derived.Test.YtpmnjjmngogkkaaGreatDoorTake
import Derived.Test.YtpmnjjmngogkkaaGreatDoorLawsA1
section
/- The reference's fractions: sums, differences, products, quotients, the order. -/
set_option linter.unusedVariables false
set_option linter.unusedSimpArgs false
namespace Go.Proofs.YtpmnjjmngogkkaaGreatDoor
open Go Go.RowKit

theorem nat_ratio (z : Int) (d : Nat) (hd : d ≠ 0) : mkRat (z * (d : Int).sign) (d : Int).natAbs = mkRat z d := by
  rw [Int.natAbs_natCast, Int.sign_eq_one_of_pos (by omega), Int.mul_one]
theorem zz (S : Nat → Prop) {w : World} {q : Rat} {m : Value} (h : NatV S 3 .i64 w m q.num.natAbs) : ZV S w (.agg #[.bool (tst (q.num < 0)), m]) q.num := ⟨m, rfl, h⟩
theorem zd (S : Nat → Prop) {w : World} {q : Rat} {m : Value} (h : NatV S 3 .i64 w m q.den) : ZV S w (.agg #[.bool (tst ((q.den : Int) < 0)), m]) (q.den : Int) := ⟨m, rfl, by rw [Int.natAbs_natCast]; exact h⟩

theorem zplus_c {S : Nat → Prop} {w : World} {va vb : Value} {a b : Rat} (hS : Up S w) (ha : QV S w va a) (hb : QV S w vb b) (hla : rl a 400000000000) (hlb : rl b 400000000000) :
    Gives Tryz.prog 44 [va, vb] w fun v' w' => Ext w w' ∧ QV S w' v' (a + b) := by
  rw [Rat.add_def']
  have h1 := zl_mul a.num b.den
  have h2 := zl_mul b.num a.den
  have h3 := zl_mul (a.den : Int) b.den
  have h4 := zl_add (a.num * b.den) (b.num * a.den)
  obtain ⟨hl1, hl2⟩ := hla
  obtain ⟨hl3, hl4⟩ := hlb
  have hz1 : zl (a.den : Int) = dl a.den := by unfold zl; rw [Int.natAbs_natCast]
  have hz2 : zl (b.den : Int) = dl b.den := by unfold zl; rw [Int.natAbs_natCast]
  have hz3 : zl a.num = dl a.num.natAbs := rfl
  have hz4 : zl b.num = dl b.num.natAbs := rfl
  have hd0 : a.den * b.den ≠ 0 := Nat.mul_ne_zero a.den_nz b.den_nz
  rw [← nat_ratio _ _ hd0, Int.natCast_mul]
  have hdz : (a.den : Int) * b.den ≠ 0 := by rw [← Int.natCast_mul]; omega
  have ha0 := ha
  have hb0 := hb
  obtain ⟨ma, ba, rfl, hma, hba⟩ := ha
  obtain ⟨mb, bb, rfl, hmb, hbb⟩ := hb
  refine gives_of Tryz.func44 rfl rfl rfl ?_
  repeat (first | refine wp_seq_region ?_ | refine wp_region ?_)
  refine r_box (cs := [.bool (tst (a.num < 0)), ma, .bool (tst ((a.den : Int) < 0)), ba]) (by conv => (lhs; whnf)) rfl ?_
  intro w1 ga k1 hga hgsa
  skip
  refine r_box (cs := [.bool (tst (b.num < 0)), mb, .bool (tst ((b.den : Int) < 0)), bb]) (by conv => (lhs; whnf)) rfl ?_
  intro w2 gb k2 hgb hgsb
  skip
  refine r_alloc (cs := [.bool false, .slice none 0 0, .bool false, .slice none 0 0]) rfl ?_
  intro w3 g k3 hg hgs
  replace hga := hga.to (k2.trans k3)
  replace hgb := hgb.to k3
  have k := (k1.trans k2).trans k3
  have hs := (k1.trans k2).size
  replace ha0 := ha0.to k
  replace hb0 := hb0.to k
  replace hma := hma.to k
  replace hmb := hmb.to k
  replace hba := hba.to k
  replace hbb := hbb.to k
  replace hS := hS.to k
  clear k1 k2 k3
  repeat (first | refine wp_seq_region ?_ | refine r_nil ?_)
  refine wp_drawn 17 (by kernel_rfl) (by kernel_rfl) ?_
  apply ob_step
  · intro x w1 k1 hd
    refine r_field rfl ?_
    refine r_nil ?_
    exact ob_eq
  apply ob_step
  · intro x w1 k1 hd
    refine r_load_part rfl (hga.to k1) rfl rfl ?_
    refine r_nil ?_
    exact ob_eq
  apply ob_step
  · intro x w1 k1 hd
    refine r_field rfl ?_
    refine r_nil ?_
    exact ob_eq
  apply ob_step
  · intro x w1 k1 hd
    refine r_load_part rfl (hgb.to k1) rfl rfl ?_
    refine r_nil ?_
    exact ob_eq
  refine ob_step (e := zE S (a.num * b.den)) ?_ ?_
  · intro x w1 k1 hd
    refine r_call (zmul_c (hS.to k1) (zz S (hma.to k1)) (zd S (hbb.to k1)) (by omega) (by omega)) rfl ?_
    rintro v2 w2 ⟨k2, h2⟩
    exact r_nil (ob_of k2 h2)
  apply ob_step
  · intro x w1 k1 hd
    refine r_field rfl ?_
    refine r_nil ?_
    exact ob_eq
  apply ob_step
  · intro x w1 k1 hd
    refine r_load_part rfl (hgb.to k1) rfl rfl ?_
    refine r_nil ?_
    exact ob_eq
  apply ob_step
  · intro x w1 k1 hd
    refine r_field rfl ?_
    refine r_nil ?_
    exact ob_eq
  apply ob_step
  · intro x w1 k1 hd
    refine r_load_part rfl (hga.to k1) rfl rfl ?_
    refine r_nil ?_
    exact ob_eq
  refine ob_step (e := zE S (b.num * a.den)) ?_ ?_
  · intro x w1 k1 hd
    refine r_call (zmul_c (hS.to k1) (zz S (hmb.to k1)) (zd S (hba.to k1)) (by omega) (by omega)) rfl ?_
    rintro v2 w2 ⟨k2, h2⟩
    exact r_nil (ob_of k2 h2)
  refine ob_step (e := zE S (a.num * b.den + b.num * a.den)) ?_ ?_
  · intro x w1 k1 hd
    refine r_call (zadd_c (hS.to k1) hd.2.2.2.2.2.1 hd.1 (by omega) (by omega)) rfl ?_
    rintro v2 w2 ⟨k2, h2⟩
    exact r_nil (ob_of k2 h2)
  apply ob_step
  · intro x w1 k1 hd
    refine r_field rfl ?_
    refine r_nil ?_
    exact ob_eq
  apply ob_step
  · intro x w1 k1 hd
    refine r_load_part rfl (hga.to k1) rfl rfl ?_
    refine r_nil ?_
    exact ob_eq
  apply ob_step
  · intro x w1 k1 hd
    refine r_field rfl ?_
    refine r_nil ?_
    exact ob_eq
  apply ob_step
  · intro x w1 k1 hd
    refine r_load_part rfl (hgb.to k1) rfl rfl ?_
    refine r_nil ?_
    exact ob_eq
  refine ob_step (e := zE S ((a.den : Int) * b.den)) ?_ ?_
  · intro x w1 k1 hd
    refine r_call (zmul_c (hS.to k1) (zd S (hba.to k1)) (zd S (hbb.to k1)) (by omega) (by omega)) rfl ?_
    rintro v2 w2 ⟨k2, h2⟩
    exact r_nil (ob_of k2 h2)
  refine ob_step (e := qE S (mkRat ((a.num * b.den + b.num * a.den) * ((a.den : Int) * b.den).sign) ((a.den : Int) * b.den).natAbs)) ?_ ?_
  · intro x w1 k1 hd
    refine r_call (zratio_c (a := a.num * b.den + b.num * a.den) (b := (a.den : Int) * b.den) (hS.to k1) hd.2.2.2.2.2.1 hd.1 (by omega) (by omega) hdz) rfl ?_
    rintro v2 w2 ⟨k2, h2⟩
    exact r_nil (ob_of k2 h2)
  refine ob_nil (ob_end ?_)
  intro x w5 k5 hall
  obtain ⟨m5, b5, hv5, h5, h6⟩ := hall.1
  refine r_store4 rfl hv5 (hg.to k5) rfl rfl h5.one rfl h6.one ?_
  intro w6 k6 hg6
  repeat (first | refine r_nil ?_ | refine q_then ?_ | refine wp_ret ?_)
  exact end1 rfl (resV_agg (by conv => (lhs; whnf)) hg6 rfl) ⟨Keeps.past (k.trans k5) k6 (by omega), m5, b5, rfl, h5.wrT k6 (hg.to k5) (by decide), h6.wrT k6 (hg.to k5) (by decide)⟩
theorem zminus_c {S : Nat → Prop} {w : World} {va vb : Value} {a b : Rat} (hS : Up S w) (ha : QV S w va a) (hb : QV S w vb b) (hla : rl a 400000000000) (hlb : rl b 400000000000) :
    Gives Tryz.prog 45 [va, vb] w fun v' w' => Ext w w' ∧ QV S w' v' (a - b) := by
  rw [Rat.sub_def']
  have h1 := zl_mul a.num b.den
  have h2 := zl_mul b.num a.den
  have h3 := zl_mul (a.den : Int) b.den
  have h4 := zl_add (a.num * b.den) (-(b.num * a.den))
  have h5 : zl (-(b.num * a.den)) = zl (b.num * a.den) := by unfold zl; rw [Int.natAbs_neg]
  rw [← Int.sub_eq_add_neg] at h4
  obtain ⟨hl1, hl2⟩ := hla
  obtain ⟨hl3, hl4⟩ := hlb
  have hz1 : zl (a.den : Int) = dl a.den := by unfold zl; rw [Int.natAbs_natCast]
  have hz2 : zl (b.den : Int) = dl b.den := by unfold zl; rw [Int.natAbs_natCast]
  have hz3 : zl a.num = dl a.num.natAbs := rfl
  have hz4 : zl b.num = dl b.num.natAbs := rfl
  have hd0 : a.den * b.den ≠ 0 := Nat.mul_ne_zero a.den_nz b.den_nz
  rw [← nat_ratio _ _ hd0, Int.natCast_mul]
  have hdz : (a.den : Int) * b.den ≠ 0 := by rw [← Int.natCast_mul]; omega
  have ha0 := ha
  have hb0 := hb
  obtain ⟨ma, ba, rfl, hma, hba⟩ := ha
  obtain ⟨mb, bb, rfl, hmb, hbb⟩ := hb
  refine gives_of Tryz.func45 rfl rfl rfl ?_
  repeat (first | refine wp_seq_region ?_ | refine wp_region ?_)
  refine r_box (cs := [.bool (tst (a.num < 0)), ma, .bool (tst ((a.den : Int) < 0)), ba]) (by conv => (lhs; whnf)) rfl ?_
  intro w1 ga k1 hga hgsa
  skip
  refine r_box (cs := [.bool (tst (b.num < 0)), mb, .bool (tst ((b.den : Int) < 0)), bb]) (by conv => (lhs; whnf)) rfl ?_
  intro w2 gb k2 hgb hgsb
  skip
  refine r_alloc (cs := [.bool false, .slice none 0 0, .bool false, .slice none 0 0]) rfl ?_
  intro w3 g k3 hg hgs
  replace hga := hga.to (k2.trans k3)
  replace hgb := hgb.to k3
  have k := (k1.trans k2).trans k3
  have hs := (k1.trans k2).size
  replace ha0 := ha0.to k
  replace hb0 := hb0.to k
  replace hma := hma.to k
  replace hmb := hmb.to k
  replace hba := hba.to k
  replace hbb := hbb.to k
  replace hS := hS.to k
  clear k1 k2 k3
  repeat (first | refine wp_seq_region ?_ | refine r_nil ?_)
  refine wp_drawn 17 (by kernel_rfl) (by kernel_rfl) ?_
  apply ob_step
  · intro x w1 k1 hd
    refine r_field rfl ?_
    refine r_nil ?_
    exact ob_eq
  apply ob_step
  · intro x w1 k1 hd
    refine r_load_part rfl (hga.to k1) rfl rfl ?_
    refine r_nil ?_
    exact ob_eq
  apply ob_step
  · intro x w1 k1 hd
    refine r_field rfl ?_
    refine r_nil ?_
    exact ob_eq
  apply ob_step
  · intro x w1 k1 hd
    refine r_load_part rfl (hgb.to k1) rfl rfl ?_
    refine r_nil ?_
    exact ob_eq
  refine ob_step (e := zE S (a.num * b.den)) ?_ ?_
  · intro x w1 k1 hd
    refine r_call (zmul_c (hS.to k1) (zz S (hma.to k1)) (zd S (hbb.to k1)) (by omega) (by omega)) rfl ?_
    rintro v2 w2 ⟨k2, h2⟩
    exact r_nil (ob_of k2 h2)
  apply ob_step
  · intro x w1 k1 hd
    refine r_field rfl ?_
    refine r_nil ?_
    exact ob_eq
  apply ob_step
  · intro x w1 k1 hd
    refine r_load_part rfl (hgb.to k1) rfl rfl ?_
    refine r_nil ?_
    exact ob_eq
  apply ob_step
  · intro x w1 k1 hd
    refine r_field rfl ?_
    refine r_nil ?_
    exact ob_eq
  apply ob_step
  · intro x w1 k1 hd
    refine r_load_part rfl (hga.to k1) rfl rfl ?_
    refine r_nil ?_
    exact ob_eq
  refine ob_step (e := zE S (b.num * a.den)) ?_ ?_
  · intro x w1 k1 hd
    refine r_call (zmul_c (hS.to k1) (zz S (hmb.to k1)) (zd S (hba.to k1)) (by omega) (by omega)) rfl ?_
    rintro v2 w2 ⟨k2, h2⟩
    exact r_nil (ob_of k2 h2)
  refine ob_step (e := zE S (a.num * b.den - b.num * a.den)) ?_ ?_
  · intro x w1 k1 hd
    refine r_call (zsub_c (hS.to k1) hd.2.2.2.2.2.1 hd.1 (by omega) (by omega)) rfl ?_
    rintro v2 w2 ⟨k2, h2⟩
    exact r_nil (ob_of k2 h2)
  apply ob_step
  · intro x w1 k1 hd
    refine r_field rfl ?_
    refine r_nil ?_
    exact ob_eq
  apply ob_step
  · intro x w1 k1 hd
    refine r_load_part rfl (hga.to k1) rfl rfl ?_
    refine r_nil ?_
    exact ob_eq
  apply ob_step
  · intro x w1 k1 hd
    refine r_field rfl ?_
    refine r_nil ?_
    exact ob_eq
  apply ob_step
  · intro x w1 k1 hd
    refine r_load_part rfl (hgb.to k1) rfl rfl ?_
    refine r_nil ?_
    exact ob_eq
  refine ob_step (e := zE S ((a.den : Int) * b.den)) ?_ ?_
  · intro x w1 k1 hd
    refine r_call (zmul_c (hS.to k1) (zd S (hba.to k1)) (zd S (hbb.to k1)) (by omega) (by omega)) rfl ?_
    rintro v2 w2 ⟨k2, h2⟩
    exact r_nil (ob_of k2 h2)
  refine ob_step (e := qE S (mkRat ((a.num * b.den - b.num * a.den) * ((a.den : Int) * b.den).sign) ((a.den : Int) * b.den).natAbs)) ?_ ?_
  · intro x w1 k1 hd
    refine r_call (zratio_c (a := a.num * b.den - b.num * a.den) (b := (a.den : Int) * b.den) (hS.to k1) hd.2.2.2.2.2.1 hd.1 (by omega) (by omega) hdz) rfl ?_
    rintro v2 w2 ⟨k2, h2⟩
    exact r_nil (ob_of k2 h2)
  refine ob_nil (ob_end ?_)
  intro x w5 k5 hall
  obtain ⟨m5, b5, hv5, h5, h6⟩ := hall.1
  refine r_store4 rfl hv5 (hg.to k5) rfl rfl h5.one rfl h6.one ?_
  intro w6 k6 hg6
  repeat (first | refine r_nil ?_ | refine q_then ?_ | refine wp_ret ?_)
  exact end1 rfl (resV_agg (by conv => (lhs; whnf)) hg6 rfl) ⟨Keeps.past (k.trans k5) k6 (by omega), m5, b5, rfl, h5.wrT k6 (hg.to k5) (by decide), h6.wrT k6 (hg.to k5) (by decide)⟩
theorem ztimes_c {S : Nat → Prop} {w : World} {va vb : Value} {a b : Rat} (hS : Up S w) (ha : QV S w va a) (hb : QV S w vb b) (hla : rl a 400000000000) (hlb : rl b 400000000000) :
    Gives Tryz.prog 46 [va, vb] w fun v' w' => Ext w w' ∧ QV S w' v' (a * b) := by
  rw [rat_times]
  have h1 := zl_mul a.num b.num
  have h3 := zl_mul (a.den : Int) b.den
  obtain ⟨hl1, hl2⟩ := hla
  obtain ⟨hl3, hl4⟩ := hlb
  have hz1 : zl (a.den : Int) = dl a.den := by unfold zl; rw [Int.natAbs_natCast]
  have hz2 : zl (b.den : Int) = dl b.den := by unfold zl; rw [Int.natAbs_natCast]
  have hz3 : zl a.num = dl a.num.natAbs := rfl
  have hz4 : zl b.num = dl b.num.natAbs := rfl
  have hd0 : a.den * b.den ≠ 0 := Nat.mul_ne_zero a.den_nz b.den_nz
  rw [← nat_ratio _ _ hd0, Int.natCast_mul]
  have hdz : (a.den : Int) * b.den ≠ 0 := by rw [← Int.natCast_mul]; omega
  have ha0 := ha
  have hb0 := hb
  obtain ⟨ma, ba, rfl, hma, hba⟩ := ha
  obtain ⟨mb, bb, rfl, hmb, hbb⟩ := hb
  refine gives_of Tryz.func46 rfl rfl rfl ?_
  repeat (first | refine wp_seq_region ?_ | refine wp_region ?_)
  refine r_box (cs := [.bool (tst (a.num < 0)), ma, .bool (tst ((a.den : Int) < 0)), ba]) (by conv => (lhs; whnf)) rfl ?_
  intro w1 ga k1 hga hgsa
  skip
  refine r_box (cs := [.bool (tst (b.num < 0)), mb, .bool (tst ((b.den : Int) < 0)), bb]) (by conv => (lhs; whnf)) rfl ?_
  intro w2 gb k2 hgb hgsb
  skip
  refine r_alloc (cs := [.bool false, .slice none 0 0, .bool false, .slice none 0 0]) rfl ?_
  intro w3 g k3 hg hgs
  replace hga := hga.to (k2.trans k3)
  replace hgb := hgb.to k3
  have k := (k1.trans k2).trans k3
  have hs := (k1.trans k2).size
  replace ha0 := ha0.to k
  replace hb0 := hb0.to k
  replace hma := hma.to k
  replace hmb := hmb.to k
  replace hba := hba.to k
  replace hbb := hbb.to k
  replace hS := hS.to k
  clear k1 k2 k3
  repeat (first | refine wp_seq_region ?_ | refine r_nil ?_)
  refine wp_drawn 11 (by kernel_rfl) (by kernel_rfl) ?_
  apply ob_step
  · intro x w1 k1 hd
    refine r_field rfl ?_
    refine r_nil ?_
    exact ob_eq
  apply ob_step
  · intro x w1 k1 hd
    refine r_load_part rfl (hga.to k1) rfl rfl ?_
    refine r_nil ?_
    exact ob_eq
  apply ob_step
  · intro x w1 k1 hd
    refine r_field rfl ?_
    refine r_nil ?_
    exact ob_eq
  apply ob_step
  · intro x w1 k1 hd
    refine r_load_part rfl (hgb.to k1) rfl rfl ?_
    refine r_nil ?_
    exact ob_eq
  refine ob_step (e := zE S (a.num * b.num)) ?_ ?_
  · intro x w1 k1 hd
    refine r_call (zmul_c (hS.to k1) (zz S (hma.to k1)) (zz S (hmb.to k1)) (by omega) (by omega)) rfl ?_
    rintro v2 w2 ⟨k2, h2⟩
    exact r_nil (ob_of k2 h2)
  apply ob_step
  · intro x w1 k1 hd
    refine r_field rfl ?_
    refine r_nil ?_
    exact ob_eq
  apply ob_step
  · intro x w1 k1 hd
    refine r_load_part rfl (hga.to k1) rfl rfl ?_
    refine r_nil ?_
    exact ob_eq
  apply ob_step
  · intro x w1 k1 hd
    refine r_field rfl ?_
    refine r_nil ?_
    exact ob_eq
  apply ob_step
  · intro x w1 k1 hd
    refine r_load_part rfl (hgb.to k1) rfl rfl ?_
    refine r_nil ?_
    exact ob_eq
  refine ob_step (e := zE S ((a.den : Int) * b.den)) ?_ ?_
  · intro x w1 k1 hd
    refine r_call (zmul_c (hS.to k1) (zd S (hba.to k1)) (zd S (hbb.to k1)) (by omega) (by omega)) rfl ?_
    rintro v2 w2 ⟨k2, h2⟩
    exact r_nil (ob_of k2 h2)
  refine ob_step (e := qE S (mkRat ((a.num * b.num) * ((a.den : Int) * b.den).sign) ((a.den : Int) * b.den).natAbs)) ?_ ?_
  · intro x w1 k1 hd
    refine r_call (zratio_c (a := a.num * b.num) (b := (a.den : Int) * b.den) (hS.to k1) hd.2.2.2.2.2.1 hd.1 (by omega) (by omega) hdz) rfl ?_
    rintro v2 w2 ⟨k2, h2⟩
    exact r_nil (ob_of k2 h2)
  refine ob_nil (ob_end ?_)
  intro x w5 k5 hall
  obtain ⟨m5, b5, hv5, h5, h6⟩ := hall.1
  refine r_store4 rfl hv5 (hg.to k5) rfl rfl h5.one rfl h6.one ?_
  intro w6 k6 hg6
  repeat (first | refine r_nil ?_ | refine q_then ?_ | refine wp_ret ?_)
  exact end1 rfl (resV_agg (by conv => (lhs; whnf)) hg6 rfl) ⟨Keeps.past (k.trans k5) k6 (by omega), m5, b5, rfl, h5.wrT k6 (hg.to k5) (by decide), h6.wrT k6 (hg.to k5) (by decide)⟩
theorem rat_over' (a b : Rat) (hb : b.num ≠ 0) : a / b = mkRat (a.num * b.den * ((a.den : Int) * b.num).sign) ((a.den : Int) * b.num).natAbs := by
  have : (a.den : Int).sign = 1 := Int.sign_eq_one_of_pos (by have := a.den_pos; omega)
  rw [rat_over a b hb, Int.sign_mul, this, Int.one_mul, Int.natAbs_mul, Int.natAbs_natCast]
theorem zover_c {S : Nat → Prop} {w : World} {va vb : Value} {a b : Rat} (hS : Up S w) (ha : QV S w va a) (hb : QV S w vb b) (hla : rl a 400000000000) (hlb : rl b 400000000000) (hb0' : b.num ≠ 0) :
    Gives Tryz.prog 50 [va, vb] w fun v' w' => Ext w w' ∧ QV S w' v' (a / b) := by
  rw [rat_over' a b hb0']
  have h1 := zl_mul a.num b.den
  have h3 := zl_mul (a.den : Int) b.num
  obtain ⟨hl1, hl2⟩ := hla
  obtain ⟨hl3, hl4⟩ := hlb
  have hz1 : zl (a.den : Int) = dl a.den := by unfold zl; rw [Int.natAbs_natCast]
  have hz2 : zl (b.den : Int) = dl b.den := by unfold zl; rw [Int.natAbs_natCast]
  have hz3 : zl a.num = dl a.num.natAbs := rfl
  have hz4 : zl b.num = dl b.num.natAbs := rfl
  have hdz : (a.den : Int) * b.num ≠ 0 := Int.mul_ne_zero (by have := a.den_pos; omega) hb0'
  have ha0 := ha
  have hb0 := hb
  obtain ⟨ma, ba, rfl, hma, hba⟩ := ha
  obtain ⟨mb, bb, rfl, hmb, hbb⟩ := hb
  refine gives_of Tryz.func50 rfl rfl rfl ?_
  repeat (first | refine wp_seq_region ?_ | refine wp_region ?_)
  refine r_box (cs := [.bool (tst (a.num < 0)), ma, .bool (tst ((a.den : Int) < 0)), ba]) (by conv => (lhs; whnf)) rfl ?_
  intro w1 ga k1 hga hgsa
  skip
  refine r_box (cs := [.bool (tst (b.num < 0)), mb, .bool (tst ((b.den : Int) < 0)), bb]) (by conv => (lhs; whnf)) rfl ?_
  intro w2 gb k2 hgb hgsb
  skip
  refine r_alloc (cs := [.bool false, .slice none 0 0, .bool false, .slice none 0 0]) rfl ?_
  intro w3 g k3 hg hgs
  replace hga := hga.to (k2.trans k3)
  replace hgb := hgb.to k3
  have k := (k1.trans k2).trans k3
  have hs := (k1.trans k2).size
  replace ha0 := ha0.to k
  replace hb0 := hb0.to k
  replace hma := hma.to k
  replace hmb := hmb.to k
  replace hba := hba.to k
  replace hbb := hbb.to k
  replace hS := hS.to k
  clear k1 k2 k3
  repeat (first | refine wp_seq_region ?_ | refine r_nil ?_)
  refine wp_drawn 11 (by kernel_rfl) (by kernel_rfl) ?_
  apply ob_step
  · intro x w1 k1 hd
    refine r_field rfl ?_
    refine r_nil ?_
    exact ob_eq
  apply ob_step
  · intro x w1 k1 hd
    refine r_load_part rfl (hga.to k1) rfl rfl ?_
    refine r_nil ?_
    exact ob_eq
  apply ob_step
  · intro x w1 k1 hd
    refine r_field rfl ?_
    refine r_nil ?_
    exact ob_eq
  apply ob_step
  · intro x w1 k1 hd
    refine r_load_part rfl (hgb.to k1) rfl rfl ?_
    refine r_nil ?_
    exact ob_eq
  refine ob_step (e := zE S (a.num * b.den)) ?_ ?_
  · intro x w1 k1 hd
    refine r_call (zmul_c (hS.to k1) (zz S (hma.to k1)) (zd S (hbb.to k1)) (by omega) (by omega)) rfl ?_
    rintro v2 w2 ⟨k2, h2⟩
    exact r_nil (ob_of k2 h2)
  apply ob_step
  · intro x w1 k1 hd
    refine r_field rfl ?_
    refine r_nil ?_
    exact ob_eq
  apply ob_step
  · intro x w1 k1 hd
    refine r_load_part rfl (hga.to k1) rfl rfl ?_
    refine r_nil ?_
    exact ob_eq
  apply ob_step
  · intro x w1 k1 hd
    refine r_field rfl ?_
    refine r_nil ?_
    exact ob_eq
  apply ob_step
  · intro x w1 k1 hd
    refine r_load_part rfl (hgb.to k1) rfl rfl ?_
    refine r_nil ?_
    exact ob_eq
  refine ob_step (e := zE S ((a.den : Int) * b.num)) ?_ ?_
  · intro x w1 k1 hd
    refine r_call (zmul_c (hS.to k1) (zd S (hba.to k1)) (zz S (hmb.to k1)) (by omega) (by omega)) rfl ?_
    rintro v2 w2 ⟨k2, h2⟩
    exact r_nil (ob_of k2 h2)
  refine ob_step (e := qE S (mkRat ((a.num * b.den) * ((a.den : Int) * b.num).sign) ((a.den : Int) * b.num).natAbs)) ?_ ?_
  · intro x w1 k1 hd
    refine r_call (zratio_c (a := a.num * b.den) (b := (a.den : Int) * b.num) (hS.to k1) hd.2.2.2.2.2.1 hd.1 (by omega) (by omega) hdz) rfl ?_
    rintro v2 w2 ⟨k2, h2⟩
    exact r_nil (ob_of k2 h2)
  refine ob_nil (ob_end ?_)
  intro x w5 k5 hall
  obtain ⟨m5, b5, hv5, h5, h6⟩ := hall.1
  refine r_store4 rfl hv5 (hg.to k5) rfl rfl h5.one rfl h6.one ?_
  intro w6 k6 hg6
  repeat (first | refine r_nil ?_ | refine q_then ?_ | refine wp_ret ?_)
  exact end1 rfl (resV_agg (by conv => (lhs; whnf)) hg6 rfl) ⟨Keeps.past (k.trans k5) k6 (by omega), m5, b5, rfl, h5.wrT k6 (hg.to k5) (by decide), h6.wrT k6 (hg.to k5) (by decide)⟩
end Go.Proofs.YtpmnjjmngogkkaaGreatDoor
end

section
/- The reference's fractions: the order, the sign, integers as fractions. -/
set_option linter.unusedVariables false
set_option linter.unusedSimpArgs false
namespace Go.Proofs.YtpmnjjmngogkkaaGreatDoor
open Go Go.RowKit

theorem zcompare_c {S : Nat → Prop} {w : World} {va vb : Value} {a b : Rat} (hS : Up S w) (ha : QV S w va a) (hb : QV S w vb b) (hla : rl a 400000000000) (hlb : rl b 400000000000) :
    Gives Tryz.prog 48 [va, vb] w fun v' w' => v' = .int .i64 (a.num * b.den - b.num * a.den).sign ∧ Ext w w' := by
  have h1 := zl_mul a.num b.den
  have h2 := zl_mul b.num a.den
  obtain ⟨hl1, hl2⟩ := hla
  obtain ⟨hl3, hl4⟩ := hlb
  have hz1 : zl (a.den : Int) = dl a.den := by unfold zl; rw [Int.natAbs_natCast]
  have hz2 : zl (b.den : Int) = dl b.den := by unfold zl; rw [Int.natAbs_natCast]
  have hz3 : zl a.num = dl a.num.natAbs := rfl
  have hz4 : zl b.num = dl b.num.natAbs := rfl
  have ha0 := ha
  have hb0 := hb
  obtain ⟨ma, ba, rfl, hma, hba⟩ := ha
  obtain ⟨mb, bb, rfl, hmb, hbb⟩ := hb
  refine gives_of Tryz.func48 rfl rfl rfl ?_
  repeat (first | refine wp_seq_region ?_ | refine wp_seq_seq ?_ | refine wp_seq_bregion ?_ | refine wp_seq_bseq ?_ | refine wp_seq_skip ?_ | refine wp_region ?_ | refine r_move (by conv => (lhs; whnf)) ?_ | refine r_assign (by conv => (lhs; whnf)) ?_ | refine r_nil ?_ | refine q_then ?_ | refine wp_block_region ?_ | refine wp_block_seq ?_ | refine wp_block_cond ?_ | refine wp_block_block ?_ | refine wp_block_skip ?_ | refine wp_ret ?_ | refine q_then_ret ?_ | refine q_block_ret ?_ | refine wp_skip ?_ | refine wp_exit ?_ | refine q_then_exit ?_ | refine q_block ?_ | refine q_block_hit rfl ?_ | refine q_block_miss rfl ?_ | refine r_extract rfl rfl ?_ | refine r_len_sl rfl ?_ | refine r_len (by conv => (lhs; whnf)) (by assumption) ?_ | refine r_len_str rfl ?_ | refine r_guard_run rfl rfl ?_ | refine r_guard_skip rfl rfl rfl ?_ | refine r_guard_undef rfl rfl ?_ | refine r_pick_true rfl (by conv => (lhs; whnf)) ?_ | refine r_pick_false rfl (by conv => (lhs; whnf)) ?_ | refine r_lss rfl rfl ?_ | refine r_eql rfl rfl ?_ | refine r_neq rfl rfl ?_ | refine r_gtr rfl rfl ?_ | refine r_geq rfl rfl ?_ | refine r_leq rfl rfl ?_ | refine r_addI rfl rfl (by omega) (by omega) ?_ | refine r_subI rfl rfl (by omega) (by omega) ?_ | refine r_index_sl rfl rfl (by omega) (by omega) ?_ | refine r_index (by conv => (lhs; whnf)) rfl (by assumption) (by omega) (by omega) ?_ | refine r_conv rfl (wrap_i64 (by omega) (by omega)) ?_ | refine r_conv rfl (wrap_u64 (by omega) (by omega)) ?_ | refine r_conv rfl (wrap_u32 (by omega) (by omega)) ?_ | refine r_remP rfl rfl (by omega) (by omega) ?_ | refine r_quoU rfl rfl (by omega) (by omega) (by omega) ?_ | refine r_quoI rfl rfl (by omega) (by omega) (by omega) ?_ | refine r_max rfl rfl ?_ | refine r_min rfl rfl ?_ | refine r_notB rfl ?_ | refine r_not rfl ?_ | refine r_eqlB rfl rfl ?_ | refine r_neqB rfl rfl ?_ | refine r_func ?_ | refine r_field rfl ?_ | refine wp_if_true rfl ?_ | refine wp_if_false rfl ?_ | refine wp_if_yes rfl (by omega) ?_ | refine wp_if_no rfl (by omega) ?_ | refine wp_cond_true rfl ?_ | refine wp_cond_false rfl ?_ | refine wp_cond_yes rfl (by omega) ?_ | refine wp_cond_no rfl (by omega) ?_ | refine r_guard_yes rfl rfl (by omega) ?_ | refine r_guard_no rfl rfl (by omega) ?_ | refine r_nilCheck rfl ?_)
  refine r_box (cs := [.bool (tst (a.num < 0)), ma, .bool (tst ((a.den : Int) < 0)), ba]) (by conv => (lhs; whnf)) rfl ?_
  intro w1 ga k1 hga hgsa
  repeat (first | refine wp_seq_region ?_ | refine wp_seq_seq ?_ | refine wp_seq_bregion ?_ | refine wp_seq_bseq ?_ | refine wp_seq_skip ?_ | refine wp_region ?_ | refine r_move (by conv => (lhs; whnf)) ?_ | refine r_assign (by conv => (lhs; whnf)) ?_ | refine r_nil ?_ | refine q_then ?_ | refine wp_block_region ?_ | refine wp_block_seq ?_ | refine wp_block_cond ?_ | refine wp_block_block ?_ | refine wp_block_skip ?_ | refine wp_ret ?_ | refine q_then_ret ?_ | refine q_block_ret ?_ | refine wp_skip ?_ | refine wp_exit ?_ | refine q_then_exit ?_ | refine q_block ?_ | refine q_block_hit rfl ?_ | refine q_block_miss rfl ?_ | refine r_extract rfl rfl ?_ | refine r_len_sl rfl ?_ | refine r_len (by conv => (lhs; whnf)) (by assumption) ?_ | refine r_len_str rfl ?_ | refine r_guard_run rfl rfl ?_ | refine r_guard_skip rfl rfl rfl ?_ | refine r_guard_undef rfl rfl ?_ | refine r_pick_true rfl (by conv => (lhs; whnf)) ?_ | refine r_pick_false rfl (by conv => (lhs; whnf)) ?_ | refine r_lss rfl rfl ?_ | refine r_eql rfl rfl ?_ | refine r_neq rfl rfl ?_ | refine r_gtr rfl rfl ?_ | refine r_geq rfl rfl ?_ | refine r_leq rfl rfl ?_ | refine r_addI rfl rfl (by omega) (by omega) ?_ | refine r_subI rfl rfl (by omega) (by omega) ?_ | refine r_index_sl rfl rfl (by omega) (by omega) ?_ | refine r_index (by conv => (lhs; whnf)) rfl (by assumption) (by omega) (by omega) ?_ | refine r_conv rfl (wrap_i64 (by omega) (by omega)) ?_ | refine r_conv rfl (wrap_u64 (by omega) (by omega)) ?_ | refine r_conv rfl (wrap_u32 (by omega) (by omega)) ?_ | refine r_remP rfl rfl (by omega) (by omega) ?_ | refine r_quoU rfl rfl (by omega) (by omega) (by omega) ?_ | refine r_quoI rfl rfl (by omega) (by omega) (by omega) ?_ | refine r_max rfl rfl ?_ | refine r_min rfl rfl ?_ | refine r_notB rfl ?_ | refine r_not rfl ?_ | refine r_eqlB rfl rfl ?_ | refine r_neqB rfl rfl ?_ | refine r_func ?_ | refine r_field rfl ?_ | refine wp_if_true rfl ?_ | refine wp_if_false rfl ?_ | refine wp_if_yes rfl (by omega) ?_ | refine wp_if_no rfl (by omega) ?_ | refine wp_cond_true rfl ?_ | refine wp_cond_false rfl ?_ | refine wp_cond_yes rfl (by omega) ?_ | refine wp_cond_no rfl (by omega) ?_ | refine r_guard_yes rfl rfl (by omega) ?_ | refine r_guard_no rfl rfl (by omega) ?_ | refine r_nilCheck rfl ?_)
  refine r_box (cs := [.bool (tst (b.num < 0)), mb, .bool (tst ((b.den : Int) < 0)), bb]) (by conv => (lhs; whnf)) rfl ?_
  intro w2 gb k2 hgb hgsb
  have k3 : Ext w2 w2 := .refl
  replace hga := hga.to k2
  have k := k1.trans k2
  replace ha0 := ha0.to k
  replace hb0 := hb0.to k
  replace hma := hma.to k
  replace hmb := hmb.to k
  replace hba := hba.to k
  replace hbb := hbb.to k
  replace hS := hS.to k
  clear k1 k2 k3
  repeat (first | refine wp_seq_region ?_ | refine wp_seq_seq ?_ | refine wp_seq_bregion ?_ | refine wp_seq_bseq ?_ | refine wp_seq_skip ?_ | refine wp_region ?_ | refine r_move (by conv => (lhs; whnf)) ?_ | refine r_assign (by conv => (lhs; whnf)) ?_ | refine r_nil ?_ | refine q_then ?_ | refine wp_block_region ?_ | refine wp_block_seq ?_ | refine wp_block_cond ?_ | refine wp_block_block ?_ | refine wp_block_skip ?_ | refine wp_ret ?_ | refine q_then_ret ?_ | refine q_block_ret ?_ | refine wp_skip ?_ | refine wp_exit ?_ | refine q_then_exit ?_ | refine q_block ?_ | refine q_block_hit rfl ?_ | refine q_block_miss rfl ?_ | refine r_extract rfl rfl ?_ | refine r_len_sl rfl ?_ | refine r_len (by conv => (lhs; whnf)) (by assumption) ?_ | refine r_len_str rfl ?_ | refine r_guard_run rfl rfl ?_ | refine r_guard_skip rfl rfl rfl ?_ | refine r_guard_undef rfl rfl ?_ | refine r_pick_true rfl (by conv => (lhs; whnf)) ?_ | refine r_pick_false rfl (by conv => (lhs; whnf)) ?_ | refine r_lss rfl rfl ?_ | refine r_eql rfl rfl ?_ | refine r_neq rfl rfl ?_ | refine r_gtr rfl rfl ?_ | refine r_geq rfl rfl ?_ | refine r_leq rfl rfl ?_ | refine r_addI rfl rfl (by omega) (by omega) ?_ | refine r_subI rfl rfl (by omega) (by omega) ?_ | refine r_index_sl rfl rfl (by omega) (by omega) ?_ | refine r_index (by conv => (lhs; whnf)) rfl (by assumption) (by omega) (by omega) ?_ | refine r_conv rfl (wrap_i64 (by omega) (by omega)) ?_ | refine r_conv rfl (wrap_u64 (by omega) (by omega)) ?_ | refine r_conv rfl (wrap_u32 (by omega) (by omega)) ?_ | refine r_remP rfl rfl (by omega) (by omega) ?_ | refine r_quoU rfl rfl (by omega) (by omega) (by omega) ?_ | refine r_quoI rfl rfl (by omega) (by omega) (by omega) ?_ | refine r_max rfl rfl ?_ | refine r_min rfl rfl ?_ | refine r_notB rfl ?_ | refine r_not rfl ?_ | refine r_eqlB rfl rfl ?_ | refine r_neqB rfl rfl ?_ | refine r_func ?_ | refine r_field rfl ?_ | refine wp_if_true rfl ?_ | refine wp_if_false rfl ?_ | refine wp_if_yes rfl (by omega) ?_ | refine wp_if_no rfl (by omega) ?_ | refine wp_cond_true rfl ?_ | refine wp_cond_false rfl ?_ | refine wp_cond_yes rfl (by omega) ?_ | refine wp_cond_no rfl (by omega) ?_ | refine r_guard_yes rfl rfl (by omega) ?_ | refine r_guard_no rfl rfl (by omega) ?_ | refine r_nilCheck rfl ?_)
  refine wp_drawn 11 (by kernel_rfl) (by kernel_rfl) ?_
  apply ob_step
  · intro x w1 k1 hd
    first | refine r_field rfl ?_
    refine r_nil ?_
    exact ob_eq
  apply ob_step
  · intro x w1 k1 hd
    first | refine r_load_blk rfl (hga.to k1) rfl ?_ | refine r_load_blk rfl (hgb.to k1) rfl ?_ | refine r_load_all rfl (hga.to k1) rfl ?_ | refine r_load_all rfl (hgb.to k1) rfl ?_ | refine r_load_part rfl (hga.to k1) rfl rfl ?_ | refine r_load_part rfl (hgb.to k1) rfl rfl ?_
    refine r_nil ?_
    exact ob_eq
  apply ob_step
  · intro x w1 k1 hd
    first | refine r_field rfl ?_
    refine r_nil ?_
    exact ob_eq
  apply ob_step
  · intro x w1 k1 hd
    first | refine r_load_blk rfl (hga.to k1) rfl ?_ | refine r_load_blk rfl (hgb.to k1) rfl ?_ | refine r_load_all rfl (hga.to k1) rfl ?_ | refine r_load_all rfl (hgb.to k1) rfl ?_ | refine r_load_part rfl (hga.to k1) rfl rfl ?_ | refine r_load_part rfl (hgb.to k1) rfl rfl ?_
    refine r_nil ?_
    exact ob_eq
  refine ob_step (e := zE S (a.num * b.den)) ?_ ?_
  · intro x w1 k1 hd
    refine r_call (zmul_c (hS.to k1) (zz S (hma.to k1)) (zd S (hbb.to k1)) (by omega) (by omega)) rfl ?_
    rintro v2 w2 ⟨k2, h2⟩
    exact r_nil (ob_of k2 h2)
  apply ob_step
  · intro x w1 k1 hd
    first | refine r_field rfl ?_
    refine r_nil ?_
    exact ob_eq
  apply ob_step
  · intro x w1 k1 hd
    first | refine r_load_blk rfl (hga.to k1) rfl ?_ | refine r_load_blk rfl (hgb.to k1) rfl ?_ | refine r_load_all rfl (hga.to k1) rfl ?_ | refine r_load_all rfl (hgb.to k1) rfl ?_ | refine r_load_part rfl (hga.to k1) rfl rfl ?_ | refine r_load_part rfl (hgb.to k1) rfl rfl ?_
    refine r_nil ?_
    exact ob_eq
  apply ob_step
  · intro x w1 k1 hd
    first | refine r_field rfl ?_
    refine r_nil ?_
    exact ob_eq
  apply ob_step
  · intro x w1 k1 hd
    first | refine r_load_blk rfl (hga.to k1) rfl ?_ | refine r_load_blk rfl (hgb.to k1) rfl ?_ | refine r_load_all rfl (hga.to k1) rfl ?_ | refine r_load_all rfl (hgb.to k1) rfl ?_ | refine r_load_part rfl (hga.to k1) rfl rfl ?_ | refine r_load_part rfl (hgb.to k1) rfl rfl ?_
    refine r_nil ?_
    exact ob_eq
  refine ob_step (e := zE S (b.num * a.den)) ?_ ?_
  · intro x w1 k1 hd
    refine r_call (zmul_c (hS.to k1) (zz S (hmb.to k1)) (zd S (hba.to k1)) (by omega) (by omega)) rfl ?_
    rintro v2 w2 ⟨k2, h2⟩
    exact r_nil (ob_of k2 h2)
  refine ob_step (e := Ent.eq (.int .i64 (a.num * b.den - b.num * a.den).sign)) ?_ ?_
  · intro x w1 k1 hd
    refine r_call (zcmp_c (hS.to k1) hd.2.2.2.2.2.1 hd.1 (by omega) (by omega)) rfl ?_
    rintro v2 w2 ⟨rfl, k2⟩
    exact r_nil (ob_eqv (rfl) k2)
  refine ob_nil (ob_end ?_)
  intro x w5 k5 hall
  repeat (first | refine wp_seq_region ?_ | refine wp_seq_seq ?_ | refine wp_seq_bregion ?_ | refine wp_seq_bseq ?_ | refine wp_seq_skip ?_ | refine wp_region ?_ | refine r_move (by conv => (lhs; whnf)) ?_ | refine r_assign (by conv => (lhs; whnf)) ?_ | refine r_nil ?_ | refine q_then ?_ | refine wp_block_region ?_ | refine wp_block_seq ?_ | refine wp_block_cond ?_ | refine wp_block_block ?_ | refine wp_block_skip ?_ | refine wp_ret ?_ | refine q_then_ret ?_ | refine q_block_ret ?_ | refine wp_skip ?_ | refine wp_exit ?_ | refine q_then_exit ?_ | refine q_block ?_ | refine q_block_hit rfl ?_ | refine q_block_miss rfl ?_ | refine r_extract rfl rfl ?_ | refine r_len_sl rfl ?_ | refine r_len (by conv => (lhs; whnf)) (by assumption) ?_ | refine r_len_str rfl ?_ | refine r_guard_run rfl rfl ?_ | refine r_guard_skip rfl rfl rfl ?_ | refine r_guard_undef rfl rfl ?_ | refine r_pick_true rfl (by conv => (lhs; whnf)) ?_ | refine r_pick_false rfl (by conv => (lhs; whnf)) ?_ | refine r_lss rfl rfl ?_ | refine r_eql rfl rfl ?_ | refine r_neq rfl rfl ?_ | refine r_gtr rfl rfl ?_ | refine r_geq rfl rfl ?_ | refine r_leq rfl rfl ?_ | refine r_addI rfl rfl (by omega) (by omega) ?_ | refine r_subI rfl rfl (by omega) (by omega) ?_ | refine r_index_sl rfl rfl (by omega) (by omega) ?_ | refine r_index (by conv => (lhs; whnf)) rfl (by assumption) (by omega) (by omega) ?_ | refine r_conv rfl (wrap_i64 (by omega) (by omega)) ?_ | refine r_conv rfl (wrap_u64 (by omega) (by omega)) ?_ | refine r_conv rfl (wrap_u32 (by omega) (by omega)) ?_ | refine r_remP rfl rfl (by omega) (by omega) ?_ | refine r_quoU rfl rfl (by omega) (by omega) (by omega) ?_ | refine r_quoI rfl rfl (by omega) (by omega) (by omega) ?_ | refine r_max rfl rfl ?_ | refine r_min rfl rfl ?_ | refine r_notB rfl ?_ | refine r_not rfl ?_ | refine r_eqlB rfl rfl ?_ | refine r_neqB rfl rfl ?_ | refine r_func ?_ | refine r_field rfl ?_ | refine wp_if_true rfl ?_ | refine wp_if_false rfl ?_ | refine wp_if_yes rfl (by omega) ?_ | refine wp_if_no rfl (by omega) ?_ | refine wp_cond_true rfl ?_ | refine wp_cond_false rfl ?_ | refine wp_cond_yes rfl (by omega) ?_ | refine wp_cond_no rfl (by omega) ?_ | refine r_guard_yes rfl rfl (by omega) ?_ | refine r_guard_no rfl rfl (by omega) ?_ | refine r_nilCheck rfl ?_)
  exact end_tmp rfl (by conv => (lhs; whnf)) ⟨rfl, k.trans k5⟩
theorem zsgn_c {S : Nat → Prop} {w : World} {v : Value} {q : Rat} (h : QV S w v q) :
    Gives Tryz.prog 49 [v] w fun v' w' => v' = .int .i64 q.num.sign ∧ Ext w w' := by
  obtain ⟨m, b, rfl, hm, hb⟩ := h
  refine gives_of Tryz.func49 rfl rfl rfl ?_
  repeat (first | refine wp_seq_region ?_ | refine wp_seq_seq ?_ | refine wp_seq_bregion ?_ | refine wp_seq_bseq ?_ | refine wp_seq_skip ?_ | refine wp_region ?_ | refine r_move (by conv => (lhs; whnf)) ?_ | refine r_assign (by conv => (lhs; whnf)) ?_ | refine r_nil ?_ | refine q_then ?_ | refine wp_block_region ?_ | refine wp_block_seq ?_ | refine wp_block_cond ?_ | refine wp_block_block ?_ | refine wp_block_skip ?_ | refine wp_ret ?_ | refine q_then_ret ?_ | refine q_block_ret ?_ | refine wp_skip ?_ | refine wp_exit ?_ | refine q_then_exit ?_ | refine q_block ?_ | refine q_block_hit rfl ?_ | refine q_block_miss rfl ?_ | refine r_extract rfl rfl ?_ | refine r_len_sl rfl ?_ | refine r_len (by conv => (lhs; whnf)) (by assumption) ?_ | refine r_len_str rfl ?_ | refine r_guard_run rfl rfl ?_ | refine r_guard_skip rfl rfl rfl ?_ | refine r_guard_undef rfl rfl ?_ | refine r_pick_true rfl (by conv => (lhs; whnf)) ?_ | refine r_pick_false rfl (by conv => (lhs; whnf)) ?_ | refine r_lss rfl rfl ?_ | refine r_eql rfl rfl ?_ | refine r_neq rfl rfl ?_ | refine r_gtr rfl rfl ?_ | refine r_geq rfl rfl ?_ | refine r_leq rfl rfl ?_ | refine r_addI rfl rfl (by omega) (by omega) ?_ | refine r_subI rfl rfl (by omega) (by omega) ?_ | refine r_index_sl rfl rfl (by omega) (by omega) ?_ | refine r_index (by conv => (lhs; whnf)) rfl (by assumption) (by omega) (by omega) ?_ | refine r_conv rfl (wrap_i64 (by omega) (by omega)) ?_ | refine r_conv rfl (wrap_u64 (by omega) (by omega)) ?_ | refine r_conv rfl (wrap_u32 (by omega) (by omega)) ?_ | refine r_remP rfl rfl (by omega) (by omega) ?_ | refine r_quoU rfl rfl (by omega) (by omega) (by omega) ?_ | refine r_quoI rfl rfl (by omega) (by omega) (by omega) ?_ | refine r_max rfl rfl ?_ | refine r_min rfl rfl ?_ | refine r_notB rfl ?_ | refine r_not rfl ?_ | refine r_eqlB rfl rfl ?_ | refine r_neqB rfl rfl ?_ | refine r_func ?_ | refine r_field rfl ?_ | refine wp_if_true rfl ?_ | refine wp_if_false rfl ?_ | refine wp_if_yes rfl (by omega) ?_ | refine wp_if_no rfl (by omega) ?_ | refine wp_cond_true rfl ?_ | refine wp_cond_false rfl ?_ | refine wp_cond_yes rfl (by omega) ?_ | refine wp_cond_no rfl (by omega) ?_ | refine r_guard_yes rfl rfl (by omega) ?_ | refine r_guard_no rfl rfl (by omega) ?_ | refine r_nilCheck rfl ?_)
  refine r_box (cs := [.bool (tst (q.num < 0)), m, .bool (tst ((q.den : Int) < 0)), b]) (by conv => (lhs; whnf)) rfl ?_
  intro w1 g k1 hg hgs
  repeat (first | refine r_load_part rfl hg rfl rfl ?_ | refine wp_seq_region ?_ | refine wp_seq_seq ?_ | refine wp_seq_bregion ?_ | refine wp_seq_bseq ?_ | refine wp_seq_skip ?_ | refine wp_region ?_ | refine r_move (by conv => (lhs; whnf)) ?_ | refine r_assign (by conv => (lhs; whnf)) ?_ | refine r_nil ?_ | refine q_then ?_ | refine wp_block_region ?_ | refine wp_block_seq ?_ | refine wp_block_cond ?_ | refine wp_block_block ?_ | refine wp_block_skip ?_ | refine wp_ret ?_ | refine q_then_ret ?_ | refine q_block_ret ?_ | refine wp_skip ?_ | refine wp_exit ?_ | refine q_then_exit ?_ | refine q_block ?_ | refine q_block_hit rfl ?_ | refine q_block_miss rfl ?_ | refine r_extract rfl rfl ?_ | refine r_len_sl rfl ?_ | refine r_len (by conv => (lhs; whnf)) (by assumption) ?_ | refine r_len_str rfl ?_ | refine r_guard_run rfl rfl ?_ | refine r_guard_skip rfl rfl rfl ?_ | refine r_guard_undef rfl rfl ?_ | refine r_pick_true rfl (by conv => (lhs; whnf)) ?_ | refine r_pick_false rfl (by conv => (lhs; whnf)) ?_ | refine r_lss rfl rfl ?_ | refine r_eql rfl rfl ?_ | refine r_neq rfl rfl ?_ | refine r_gtr rfl rfl ?_ | refine r_geq rfl rfl ?_ | refine r_leq rfl rfl ?_ | refine r_addI rfl rfl (by omega) (by omega) ?_ | refine r_subI rfl rfl (by omega) (by omega) ?_ | refine r_index_sl rfl rfl (by omega) (by omega) ?_ | refine r_index (by conv => (lhs; whnf)) rfl (by assumption) (by omega) (by omega) ?_ | refine r_conv rfl (wrap_i64 (by omega) (by omega)) ?_ | refine r_conv rfl (wrap_u64 (by omega) (by omega)) ?_ | refine r_conv rfl (wrap_u32 (by omega) (by omega)) ?_ | refine r_remP rfl rfl (by omega) (by omega) ?_ | refine r_quoU rfl rfl (by omega) (by omega) (by omega) ?_ | refine r_quoI rfl rfl (by omega) (by omega) (by omega) ?_ | refine r_max rfl rfl ?_ | refine r_min rfl rfl ?_ | refine r_notB rfl ?_ | refine r_not rfl ?_ | refine r_eqlB rfl rfl ?_ | refine r_neqB rfl rfl ?_ | refine r_func ?_ | refine r_field rfl ?_ | refine wp_if_true rfl ?_ | refine wp_if_false rfl ?_ | refine wp_if_yes rfl (by omega) ?_ | refine wp_if_no rfl (by omega) ?_ | refine wp_cond_true rfl ?_ | refine wp_cond_false rfl ?_ | refine wp_cond_yes rfl (by omega) ?_ | refine wp_cond_no rfl (by omega) ?_ | refine r_guard_yes rfl rfl (by omega) ?_ | refine r_guard_no rfl rfl (by omega) ?_ | refine r_nilCheck rfl ?_)
  refine r_call (zsign_c (z := q.num) ⟨m, rfl, hm.to k1⟩) rfl ?_
  rintro v2 w2 ⟨rfl, k2⟩
  repeat (first | refine wp_seq_region ?_ | refine wp_seq_seq ?_ | refine wp_seq_bregion ?_ | refine wp_seq_bseq ?_ | refine wp_seq_skip ?_ | refine wp_region ?_ | refine r_move (by conv => (lhs; whnf)) ?_ | refine r_assign (by conv => (lhs; whnf)) ?_ | refine r_nil ?_ | refine q_then ?_ | refine wp_block_region ?_ | refine wp_block_seq ?_ | refine wp_block_cond ?_ | refine wp_block_block ?_ | refine wp_block_skip ?_ | refine wp_ret ?_ | refine q_then_ret ?_ | refine q_block_ret ?_ | refine wp_skip ?_ | refine wp_exit ?_ | refine q_then_exit ?_ | refine q_block ?_ | refine q_block_hit rfl ?_ | refine q_block_miss rfl ?_ | refine r_extract rfl rfl ?_ | refine r_len_sl rfl ?_ | refine r_len (by conv => (lhs; whnf)) (by assumption) ?_ | refine r_len_str rfl ?_ | refine r_guard_run rfl rfl ?_ | refine r_guard_skip rfl rfl rfl ?_ | refine r_guard_undef rfl rfl ?_ | refine r_pick_true rfl (by conv => (lhs; whnf)) ?_ | refine r_pick_false rfl (by conv => (lhs; whnf)) ?_ | refine r_lss rfl rfl ?_ | refine r_eql rfl rfl ?_ | refine r_neq rfl rfl ?_ | refine r_gtr rfl rfl ?_ | refine r_geq rfl rfl ?_ | refine r_leq rfl rfl ?_ | refine r_addI rfl rfl (by omega) (by omega) ?_ | refine r_subI rfl rfl (by omega) (by omega) ?_ | refine r_index_sl rfl rfl (by omega) (by omega) ?_ | refine r_index (by conv => (lhs; whnf)) rfl (by assumption) (by omega) (by omega) ?_ | refine r_conv rfl (wrap_i64 (by omega) (by omega)) ?_ | refine r_conv rfl (wrap_u64 (by omega) (by omega)) ?_ | refine r_conv rfl (wrap_u32 (by omega) (by omega)) ?_ | refine r_remP rfl rfl (by omega) (by omega) ?_ | refine r_quoU rfl rfl (by omega) (by omega) (by omega) ?_ | refine r_quoI rfl rfl (by omega) (by omega) (by omega) ?_ | refine r_max rfl rfl ?_ | refine r_min rfl rfl ?_ | refine r_notB rfl ?_ | refine r_not rfl ?_ | refine r_eqlB rfl rfl ?_ | refine r_neqB rfl rfl ?_ | refine r_func ?_ | refine r_field rfl ?_ | refine wp_if_true rfl ?_ | refine wp_if_false rfl ?_ | refine wp_if_yes rfl (by omega) ?_ | refine wp_if_no rfl (by omega) ?_ | refine wp_cond_true rfl ?_ | refine wp_cond_false rfl ?_ | refine wp_cond_yes rfl (by omega) ?_ | refine wp_cond_no rfl (by omega) ?_ | refine r_guard_yes rfl rfl (by omega) ?_ | refine r_guard_no rfl rfl (by omega) ?_ | refine r_nilCheck rfl ?_)
  exact end_tmp rfl (by conv => (lhs; whnf)) ⟨rfl, k1.trans k2⟩
theorem zfrac_c {S : Nat → Prop} {w : World} {a b : Int} (hS : Up S w) (ha0 : -9223372036854775808 ≤ a) (ha1 : a ≤ 9223372036854775807) (hb0 : -9223372036854775808 ≤ b) (hb1 : b ≤ 9223372036854775807) (hb : b ≠ 0) (hla : zl a ≤ 3) (hlb : zl b ≤ 3) :
    Gives Tryz.prog 103 [.int .i64 a, .int .i64 b] w fun v' w' => Ext w w' ∧ QV S w' v' (mkRat (a * b.sign) b.natAbs) := by
  refine gives_of Tryz.func103 rfl rfl rfl ?_
  repeat (first | refine wp_seq_region ?_ | refine wp_seq_seq ?_ | refine wp_seq_bregion ?_ | refine wp_seq_bseq ?_ | refine wp_seq_skip ?_ | refine wp_region ?_ | refine r_move (by conv => (lhs; whnf)) ?_ | refine r_assign (by conv => (lhs; whnf)) ?_ | refine r_nil ?_ | refine q_then ?_ | refine wp_block_region ?_ | refine wp_block_seq ?_ | refine wp_block_cond ?_ | refine wp_block_block ?_ | refine wp_block_skip ?_ | refine wp_ret ?_ | refine q_then_ret ?_ | refine q_block_ret ?_ | refine wp_skip ?_ | refine wp_exit ?_ | refine q_then_exit ?_ | refine q_block ?_ | refine q_block_hit rfl ?_ | refine q_block_miss rfl ?_ | refine r_extract rfl rfl ?_ | refine r_len_sl rfl ?_ | refine r_len (by conv => (lhs; whnf)) (by assumption) ?_ | refine r_len_str rfl ?_ | refine r_guard_run rfl rfl ?_ | refine r_guard_skip rfl rfl rfl ?_ | refine r_guard_undef rfl rfl ?_ | refine r_pick_true rfl (by conv => (lhs; whnf)) ?_ | refine r_pick_false rfl (by conv => (lhs; whnf)) ?_ | refine r_lss rfl rfl ?_ | refine r_eql rfl rfl ?_ | refine r_neq rfl rfl ?_ | refine r_gtr rfl rfl ?_ | refine r_geq rfl rfl ?_ | refine r_leq rfl rfl ?_ | refine r_addI rfl rfl (by omega) (by omega) ?_ | refine r_subI rfl rfl (by omega) (by omega) ?_ | refine r_index_sl rfl rfl (by omega) (by omega) ?_ | refine r_index (by conv => (lhs; whnf)) rfl (by assumption) (by omega) (by omega) ?_ | refine r_conv rfl (wrap_i64 (by omega) (by omega)) ?_ | refine r_conv rfl (wrap_u64 (by omega) (by omega)) ?_ | refine r_conv rfl (wrap_u32 (by omega) (by omega)) ?_ | refine r_remP rfl rfl (by omega) (by omega) ?_ | refine r_quoU rfl rfl (by omega) (by omega) (by omega) ?_ | refine r_quoI rfl rfl (by omega) (by omega) (by omega) ?_ | refine r_max rfl rfl ?_ | refine r_min rfl rfl ?_ | refine r_notB rfl ?_ | refine r_not rfl ?_ | refine r_eqlB rfl rfl ?_ | refine r_neqB rfl rfl ?_ | refine r_func ?_ | refine r_field rfl ?_ | refine wp_if_true rfl ?_ | refine wp_if_false rfl ?_ | refine wp_if_yes rfl (by omega) ?_ | refine wp_if_no rfl (by omega) ?_ | refine wp_cond_true rfl ?_ | refine wp_cond_false rfl ?_ | refine wp_cond_yes rfl (by omega) ?_ | refine wp_cond_no rfl (by omega) ?_ | refine r_guard_yes rfl rfl (by omega) ?_ | refine r_guard_no rfl rfl (by omega) ?_ | refine r_nilCheck rfl ?_)
  refine r_alloc (cs := [.bool false, .slice none 0 0, .bool false, .slice none 0 0]) rfl ?_
  intro w1 g k1 hg hgs
  replace hS := hS.to k1
  repeat (first | refine wp_seq_region ?_ | refine wp_seq_seq ?_ | refine wp_seq_bregion ?_ | refine wp_seq_bseq ?_ | refine wp_seq_skip ?_ | refine wp_region ?_ | refine r_move (by conv => (lhs; whnf)) ?_ | refine r_assign (by conv => (lhs; whnf)) ?_ | refine r_nil ?_ | refine q_then ?_ | refine wp_block_region ?_ | refine wp_block_seq ?_ | refine wp_block_cond ?_ | refine wp_block_block ?_ | refine wp_block_skip ?_ | refine wp_ret ?_ | refine q_then_ret ?_ | refine q_block_ret ?_ | refine wp_skip ?_ | refine wp_exit ?_ | refine q_then_exit ?_ | refine q_block ?_ | refine q_block_hit rfl ?_ | refine q_block_miss rfl ?_ | refine r_extract rfl rfl ?_ | refine r_len_sl rfl ?_ | refine r_len (by conv => (lhs; whnf)) (by assumption) ?_ | refine r_len_str rfl ?_ | refine r_guard_run rfl rfl ?_ | refine r_guard_skip rfl rfl rfl ?_ | refine r_guard_undef rfl rfl ?_ | refine r_pick_true rfl (by conv => (lhs; whnf)) ?_ | refine r_pick_false rfl (by conv => (lhs; whnf)) ?_ | refine r_lss rfl rfl ?_ | refine r_eql rfl rfl ?_ | refine r_neq rfl rfl ?_ | refine r_gtr rfl rfl ?_ | refine r_geq rfl rfl ?_ | refine r_leq rfl rfl ?_ | refine r_addI rfl rfl (by omega) (by omega) ?_ | refine r_subI rfl rfl (by omega) (by omega) ?_ | refine r_index_sl rfl rfl (by omega) (by omega) ?_ | refine r_index (by conv => (lhs; whnf)) rfl (by assumption) (by omega) (by omega) ?_ | refine r_conv rfl (wrap_i64 (by omega) (by omega)) ?_ | refine r_conv rfl (wrap_u64 (by omega) (by omega)) ?_ | refine r_conv rfl (wrap_u32 (by omega) (by omega)) ?_ | refine r_remP rfl rfl (by omega) (by omega) ?_ | refine r_quoU rfl rfl (by omega) (by omega) (by omega) ?_ | refine r_quoI rfl rfl (by omega) (by omega) (by omega) ?_ | refine r_max rfl rfl ?_ | refine r_min rfl rfl ?_ | refine r_notB rfl ?_ | refine r_not rfl ?_ | refine r_eqlB rfl rfl ?_ | refine r_neqB rfl rfl ?_ | refine r_func ?_ | refine r_field rfl ?_ | refine wp_if_true rfl ?_ | refine wp_if_false rfl ?_ | refine wp_if_yes rfl (by omega) ?_ | refine wp_if_no rfl (by omega) ?_ | refine wp_cond_true rfl ?_ | refine wp_cond_false rfl ?_ | refine wp_cond_yes rfl (by omega) ?_ | refine wp_cond_no rfl (by omega) ?_ | refine r_guard_yes rfl rfl (by omega) ?_ | refine r_guard_no rfl rfl (by omega) ?_ | refine r_nilCheck rfl ?_)
  refine r_call (zof_c (z := a) hS ha0 ha1) rfl ?_
  rintro v2 w2 ⟨k2, h2⟩
  repeat (first | refine wp_seq_region ?_ | refine wp_seq_seq ?_ | refine wp_seq_bregion ?_ | refine wp_seq_bseq ?_ | refine wp_seq_skip ?_ | refine wp_region ?_ | refine r_move (by conv => (lhs; whnf)) ?_ | refine r_assign (by conv => (lhs; whnf)) ?_ | refine r_nil ?_ | refine q_then ?_ | refine wp_block_region ?_ | refine wp_block_seq ?_ | refine wp_block_cond ?_ | refine wp_block_block ?_ | refine wp_block_skip ?_ | refine wp_ret ?_ | refine q_then_ret ?_ | refine q_block_ret ?_ | refine wp_skip ?_ | refine wp_exit ?_ | refine q_then_exit ?_ | refine q_block ?_ | refine q_block_hit rfl ?_ | refine q_block_miss rfl ?_ | refine r_extract rfl rfl ?_ | refine r_len_sl rfl ?_ | refine r_len (by conv => (lhs; whnf)) (by assumption) ?_ | refine r_len_str rfl ?_ | refine r_guard_run rfl rfl ?_ | refine r_guard_skip rfl rfl rfl ?_ | refine r_guard_undef rfl rfl ?_ | refine r_pick_true rfl (by conv => (lhs; whnf)) ?_ | refine r_pick_false rfl (by conv => (lhs; whnf)) ?_ | refine r_lss rfl rfl ?_ | refine r_eql rfl rfl ?_ | refine r_neq rfl rfl ?_ | refine r_gtr rfl rfl ?_ | refine r_geq rfl rfl ?_ | refine r_leq rfl rfl ?_ | refine r_addI rfl rfl (by omega) (by omega) ?_ | refine r_subI rfl rfl (by omega) (by omega) ?_ | refine r_index_sl rfl rfl (by omega) (by omega) ?_ | refine r_index (by conv => (lhs; whnf)) rfl (by assumption) (by omega) (by omega) ?_ | refine r_conv rfl (wrap_i64 (by omega) (by omega)) ?_ | refine r_conv rfl (wrap_u64 (by omega) (by omega)) ?_ | refine r_conv rfl (wrap_u32 (by omega) (by omega)) ?_ | refine r_remP rfl rfl (by omega) (by omega) ?_ | refine r_quoU rfl rfl (by omega) (by omega) (by omega) ?_ | refine r_quoI rfl rfl (by omega) (by omega) (by omega) ?_ | refine r_max rfl rfl ?_ | refine r_min rfl rfl ?_ | refine r_notB rfl ?_ | refine r_not rfl ?_ | refine r_eqlB rfl rfl ?_ | refine r_neqB rfl rfl ?_ | refine r_func ?_ | refine r_field rfl ?_ | refine wp_if_true rfl ?_ | refine wp_if_false rfl ?_ | refine wp_if_yes rfl (by omega) ?_ | refine wp_if_no rfl (by omega) ?_ | refine wp_cond_true rfl ?_ | refine wp_cond_false rfl ?_ | refine wp_cond_yes rfl (by omega) ?_ | refine wp_cond_no rfl (by omega) ?_ | refine r_guard_yes rfl rfl (by omega) ?_ | refine r_guard_no rfl rfl (by omega) ?_ | refine r_nilCheck rfl ?_)
  refine r_call (zof_c (z := b) (hS.to k2) hb0 hb1) rfl ?_
  rintro v3 w3 ⟨k3, h3⟩
  repeat (first | refine wp_seq_region ?_ | refine wp_seq_seq ?_ | refine wp_seq_bregion ?_ | refine wp_seq_bseq ?_ | refine wp_seq_skip ?_ | refine wp_region ?_ | refine r_move (by conv => (lhs; whnf)) ?_ | refine r_assign (by conv => (lhs; whnf)) ?_ | refine r_nil ?_ | refine q_then ?_ | refine wp_block_region ?_ | refine wp_block_seq ?_ | refine wp_block_cond ?_ | refine wp_block_block ?_ | refine wp_block_skip ?_ | refine wp_ret ?_ | refine q_then_ret ?_ | refine q_block_ret ?_ | refine wp_skip ?_ | refine wp_exit ?_ | refine q_then_exit ?_ | refine q_block ?_ | refine q_block_hit rfl ?_ | refine q_block_miss rfl ?_ | refine r_extract rfl rfl ?_ | refine r_len_sl rfl ?_ | refine r_len (by conv => (lhs; whnf)) (by assumption) ?_ | refine r_len_str rfl ?_ | refine r_guard_run rfl rfl ?_ | refine r_guard_skip rfl rfl rfl ?_ | refine r_guard_undef rfl rfl ?_ | refine r_pick_true rfl (by conv => (lhs; whnf)) ?_ | refine r_pick_false rfl (by conv => (lhs; whnf)) ?_ | refine r_lss rfl rfl ?_ | refine r_eql rfl rfl ?_ | refine r_neq rfl rfl ?_ | refine r_gtr rfl rfl ?_ | refine r_geq rfl rfl ?_ | refine r_leq rfl rfl ?_ | refine r_addI rfl rfl (by omega) (by omega) ?_ | refine r_subI rfl rfl (by omega) (by omega) ?_ | refine r_index_sl rfl rfl (by omega) (by omega) ?_ | refine r_index (by conv => (lhs; whnf)) rfl (by assumption) (by omega) (by omega) ?_ | refine r_conv rfl (wrap_i64 (by omega) (by omega)) ?_ | refine r_conv rfl (wrap_u64 (by omega) (by omega)) ?_ | refine r_conv rfl (wrap_u32 (by omega) (by omega)) ?_ | refine r_remP rfl rfl (by omega) (by omega) ?_ | refine r_quoU rfl rfl (by omega) (by omega) (by omega) ?_ | refine r_quoI rfl rfl (by omega) (by omega) (by omega) ?_ | refine r_max rfl rfl ?_ | refine r_min rfl rfl ?_ | refine r_notB rfl ?_ | refine r_not rfl ?_ | refine r_eqlB rfl rfl ?_ | refine r_neqB rfl rfl ?_ | refine r_func ?_ | refine r_field rfl ?_ | refine wp_if_true rfl ?_ | refine wp_if_false rfl ?_ | refine wp_if_yes rfl (by omega) ?_ | refine wp_if_no rfl (by omega) ?_ | refine wp_cond_true rfl ?_ | refine wp_cond_false rfl ?_ | refine wp_cond_yes rfl (by omega) ?_ | refine wp_cond_no rfl (by omega) ?_ | refine r_guard_yes rfl rfl (by omega) ?_ | refine r_guard_no rfl rfl (by omega) ?_ | refine r_nilCheck rfl ?_)
  refine r_call (zratio_c (a := a) (b := b) ((hS.to k2).to k3) (h2.to k3) h3 (by omega) (by omega) hb) rfl ?_
  rintro v4 w4 ⟨k4, m4, b4, rfl, h4, h5⟩
  repeat (first | refine wp_seq_region ?_ | refine wp_seq_seq ?_ | refine wp_seq_bregion ?_ | refine wp_seq_bseq ?_ | refine wp_seq_skip ?_ | refine wp_region ?_ | refine r_move (by conv => (lhs; whnf)) ?_ | refine r_assign (by conv => (lhs; whnf)) ?_ | refine r_nil ?_ | refine q_then ?_ | refine wp_block_region ?_ | refine wp_block_seq ?_ | refine wp_block_cond ?_ | refine wp_block_block ?_ | refine wp_block_skip ?_ | refine wp_ret ?_ | refine q_then_ret ?_ | refine q_block_ret ?_ | refine wp_skip ?_ | refine wp_exit ?_ | refine q_then_exit ?_ | refine q_block ?_ | refine q_block_hit rfl ?_ | refine q_block_miss rfl ?_ | refine r_extract rfl rfl ?_ | refine r_len_sl rfl ?_ | refine r_len (by conv => (lhs; whnf)) (by assumption) ?_ | refine r_len_str rfl ?_ | refine r_guard_run rfl rfl ?_ | refine r_guard_skip rfl rfl rfl ?_ | refine r_guard_undef rfl rfl ?_ | refine r_pick_true rfl (by conv => (lhs; whnf)) ?_ | refine r_pick_false rfl (by conv => (lhs; whnf)) ?_ | refine r_lss rfl rfl ?_ | refine r_eql rfl rfl ?_ | refine r_neq rfl rfl ?_ | refine r_gtr rfl rfl ?_ | refine r_geq rfl rfl ?_ | refine r_leq rfl rfl ?_ | refine r_addI rfl rfl (by omega) (by omega) ?_ | refine r_subI rfl rfl (by omega) (by omega) ?_ | refine r_index_sl rfl rfl (by omega) (by omega) ?_ | refine r_index (by conv => (lhs; whnf)) rfl (by assumption) (by omega) (by omega) ?_ | refine r_conv rfl (wrap_i64 (by omega) (by omega)) ?_ | refine r_conv rfl (wrap_u64 (by omega) (by omega)) ?_ | refine r_conv rfl (wrap_u32 (by omega) (by omega)) ?_ | refine r_remP rfl rfl (by omega) (by omega) ?_ | refine r_quoU rfl rfl (by omega) (by omega) (by omega) ?_ | refine r_quoI rfl rfl (by omega) (by omega) (by omega) ?_ | refine r_max rfl rfl ?_ | refine r_min rfl rfl ?_ | refine r_notB rfl ?_ | refine r_not rfl ?_ | refine r_eqlB rfl rfl ?_ | refine r_neqB rfl rfl ?_ | refine r_func ?_ | refine r_field rfl ?_ | refine wp_if_true rfl ?_ | refine wp_if_false rfl ?_ | refine wp_if_yes rfl (by omega) ?_ | refine wp_if_no rfl (by omega) ?_ | refine wp_cond_true rfl ?_ | refine wp_cond_false rfl ?_ | refine wp_cond_yes rfl (by omega) ?_ | refine wp_cond_no rfl (by omega) ?_ | refine r_guard_yes rfl rfl (by omega) ?_ | refine r_guard_no rfl rfl (by omega) ?_ | refine r_nilCheck rfl ?_)
  refine r_store4 rfl (by conv => (lhs; whnf)) (((hg.to k2).to k3).to k4) rfl rfl h4.one rfl h5.one ?_
  intro w5 k5 hg5
  repeat (first | refine wp_seq_region ?_ | refine wp_seq_seq ?_ | refine wp_seq_bregion ?_ | refine wp_seq_bseq ?_ | refine wp_seq_skip ?_ | refine wp_region ?_ | refine r_move (by conv => (lhs; whnf)) ?_ | refine r_assign (by conv => (lhs; whnf)) ?_ | refine r_nil ?_ | refine q_then ?_ | refine wp_block_region ?_ | refine wp_block_seq ?_ | refine wp_block_cond ?_ | refine wp_block_block ?_ | refine wp_block_skip ?_ | refine wp_ret ?_ | refine q_then_ret ?_ | refine q_block_ret ?_ | refine wp_skip ?_ | refine wp_exit ?_ | refine q_then_exit ?_ | refine q_block ?_ | refine q_block_hit rfl ?_ | refine q_block_miss rfl ?_ | refine r_extract rfl rfl ?_ | refine r_len_sl rfl ?_ | refine r_len (by conv => (lhs; whnf)) (by assumption) ?_ | refine r_len_str rfl ?_ | refine r_guard_run rfl rfl ?_ | refine r_guard_skip rfl rfl rfl ?_ | refine r_guard_undef rfl rfl ?_ | refine r_pick_true rfl (by conv => (lhs; whnf)) ?_ | refine r_pick_false rfl (by conv => (lhs; whnf)) ?_ | refine r_lss rfl rfl ?_ | refine r_eql rfl rfl ?_ | refine r_neq rfl rfl ?_ | refine r_gtr rfl rfl ?_ | refine r_geq rfl rfl ?_ | refine r_leq rfl rfl ?_ | refine r_addI rfl rfl (by omega) (by omega) ?_ | refine r_subI rfl rfl (by omega) (by omega) ?_ | refine r_index_sl rfl rfl (by omega) (by omega) ?_ | refine r_index (by conv => (lhs; whnf)) rfl (by assumption) (by omega) (by omega) ?_ | refine r_conv rfl (wrap_i64 (by omega) (by omega)) ?_ | refine r_conv rfl (wrap_u64 (by omega) (by omega)) ?_ | refine r_conv rfl (wrap_u32 (by omega) (by omega)) ?_ | refine r_remP rfl rfl (by omega) (by omega) ?_ | refine r_quoU rfl rfl (by omega) (by omega) (by omega) ?_ | refine r_quoI rfl rfl (by omega) (by omega) (by omega) ?_ | refine r_max rfl rfl ?_ | refine r_min rfl rfl ?_ | refine r_notB rfl ?_ | refine r_not rfl ?_ | refine r_eqlB rfl rfl ?_ | refine r_neqB rfl rfl ?_ | refine r_func ?_ | refine r_field rfl ?_ | refine wp_if_true rfl ?_ | refine wp_if_false rfl ?_ | refine wp_if_yes rfl (by omega) ?_ | refine wp_if_no rfl (by omega) ?_ | refine wp_cond_true rfl ?_ | refine wp_cond_false rfl ?_ | refine wp_cond_yes rfl (by omega) ?_ | refine wp_cond_no rfl (by omega) ?_ | refine r_guard_yes rfl rfl (by omega) ?_ | refine r_guard_no rfl rfl (by omega) ?_ | refine r_nilCheck rfl ?_)
  exact end1 rfl (resV_agg (by conv => (lhs; whnf)) hg5 rfl) ⟨(((k1.trans k2).trans k3).trans k4).past k5 (by omega), m4, b4, rfl, h4.wrT k5 (((hg.to k2).to k3).to k4) (by decide), h5.wrT k5 (((hg.to k2).to k3).to k4) (by decide)⟩
end Go.Proofs.YtpmnjjmngogkkaaGreatDoor
end

section
/- Plain arithmetic: which lists of bytes are decimal numerals, and of what. No program in sight. -/
set_option linter.unusedVariables false
set_option linter.unusedSimpArgs false
namespace Go.Proofs.YtpmnjjmngogkkaaGreatDoor
open Go

/-- The number that decimal digits make. -/
def digV (l : List UInt8) : Nat := l.foldl (fun a c => 10 * a + (c.toNat - 48)) 0
def Dig (c : UInt8) : Prop := 48 ≤ c.toNat ∧ c.toNat ≤ 57
/-- The decimal digits of a number, without zeros in front. -/
def DecL (l : List UInt8) : Prop := l ≠ [] ∧ (∀ c ∈ l, Dig c) ∧ (l.head? = some 48 → l.length = 1)

theorem digV_nil : digV [] = 0 := rfl
theorem digV_snoc (l : List UInt8) (c : UInt8) : digV (l ++ [c]) = 10 * digV l + (c.toNat - 48) := by
  unfold digV
  rw [List.foldl_append]
  rfl
theorem digV_append (a b : List UInt8) : digV (a ++ b) = digV a * 10 ^ b.length + digV b := by
  induction h : b.length generalizing b with
  | zero =>
    obtain rfl := List.eq_nil_of_length_eq_zero h
    simp [digV_nil]
  | succ k ih =>
    have hne : b ≠ [] := by rintro rfl; simp at h
    have e := List.dropLast_concat_getLast hne
    rw [← e, ← List.append_assoc, digV_snoc, digV_snoc, ih b.dropLast (by rw [List.length_dropLast]; omega), Nat.pow_succ]
    rw [Nat.mul_add, Nat.add_assoc, Nat.mul_left_comm, Nat.mul_comm 10]
theorem digV_lt {l : List UInt8} (h : ∀ c ∈ l, Dig c) : digV l < 10 ^ l.length := by
  induction hl : l.length generalizing l with
  | zero =>
    obtain rfl := List.eq_nil_of_length_eq_zero hl
    simp [digV_nil]
  | succ k ih =>
    have hne : l ≠ [] := by rintro rfl; simp at hl
    have e := List.dropLast_concat_getLast hne
    have h1 := ih (l := l.dropLast) (fun c hc => h c (List.dropLast_subset _ hc)) (by rw [List.length_dropLast]; omega)
    have h2 := h _ (List.getLast_mem hne)
    rw [← e, digV_snoc, Nat.pow_succ]
    unfold Dig at h2
    omega
theorem digV_dec (n : Nat) : digV (Lib.decDigits n) = n := by
  induction n using Nat.strongRecOn with
  | _ n ih =>
    rw [Lib.decDigits]
    by_cases h : n < 10
    · rw [dif_pos h]
      show 10 * 0 + ((UInt8.ofNat (48 + n)).toNat - 48) = n
      rw [UInt8.toNat_ofNat']
      omega
    · rw [dif_neg h, digV_snoc, ih _ (by omega), UInt8.toNat_ofNat']
      omega
theorem dec_ne (n : Nat) : Lib.decDigits n ≠ [] := by
  intro h
  have h1 := Lib.decDigits_length n
  rw [h] at h1
  have := Lib.nDigits_pos n
  simp at h1
  omega
theorem decL_dec (n : Nat) : DecL (Lib.decDigits n) := by
  refine ⟨dec_ne n, ?_, ?_⟩
  · induction n using Nat.strongRecOn with
    | _ n ih =>
      rw [Lib.decDigits]
      intro c hc
      by_cases h : n < 10
      · rw [dif_pos h] at hc
        rw [List.mem_singleton.1 hc]
        unfold Dig
        rw [UInt8.toNat_ofNat']
        omega
      · rw [dif_neg h] at hc
        rcases List.mem_append.1 hc with h1 | h1
        · exact ih _ (by omega) c h1
        · rw [List.mem_singleton.1 h1]
          unfold Dig
          rw [UInt8.toNat_ofNat']
          omega
  · intro h
    by_cases hn : n < 10
    · rw [Lib.decDigits_one hn]; rfl
    · exfalso
      -- the highest digit is not 0
      have hp : 0 < n := by omega
      have h1 := high_digit hp
      have h2 := low_get (k := Lib.nDigits n) (v := n) (i := Lib.nDigits n - 1) (by have := Lib.nDigits_pos n; omega)
      rw [← dec_low] at h2
      have h3 : (Lib.decDigits n).reverse[Lib.nDigits n - 1]? = (Lib.decDigits n).head? := by
        have hl := Lib.decDigits_length n
        have hpos := Lib.nDigits_pos n
        rw [List.getElem?_reverse (by omega), hl, show Lib.nDigits n - 1 - (Lib.nDigits n - 1) = 0 by omega, List.head?_eq_getElem?]
      rw [h3, h] at h2
      have h4 := congrArg UInt8.toNat (Option.some.inj h2)
      rw [UInt8.toNat_ofNat'] at h4
      have h5 : (48 : UInt8).toNat = 48 := rfl
      rw [h5] at h4
      omega
theorem dec_digV {l : List UInt8} (h : DecL l) : Lib.decDigits (digV l) = l := by
  induction hl : l.length generalizing l with
  | zero => exact absurd (List.eq_nil_of_length_eq_zero hl) h.1
  | succ k ih =>
    have e := List.dropLast_concat_getLast h.1
    have h2 := h.2.1 _ (List.getLast_mem h.1)
    obtain ⟨c, hc⟩ : ∃ c, c = l.getLast h.1 := ⟨_, rfl⟩
    obtain ⟨t, ht⟩ : ∃ t, t = l.dropLast := ⟨_, rfl⟩
    rw [← hc] at h2 e
    rw [← ht] at e
    have htl : t.length = k := by rw [ht, List.length_dropLast]; omega
    rw [← e, digV_snoc]
    unfold Dig at h2
    rcases Nat.eq_zero_or_pos k with h0 | h0
    · obtain rfl := List.eq_nil_of_length_eq_zero (htl.trans h0)
      rw [digV_nil, Nat.mul_zero, Nat.zero_add, Lib.decDigits_one (by omega)]
      show [UInt8.ofNat (48 + (c.toNat - 48))] = [c]
      rw [show 48 + (c.toNat - 48) = c.toNat by omega, UInt8.ofNat_toNat]
    · have hne : t ≠ [] := by rintro rfl; simp at htl; omega
      have hhd : l.head? = t.head? := by rw [← e]; cases t with | nil => exact absurd rfl hne | cons x r => rfl
      have h48 : t.head? ≠ some 48 := by
        intro h3
        have := h.2.2 (hhd.trans h3)
        omega
      have hT : DecL t := ⟨hne, fun x hx => h.2.1 x (by rw [← e]; exact List.mem_append_left _ hx), fun h3 => absurd h3 h48⟩
      have hi := ih hT htl
      have hpos : 0 < digV t := by
        rcases Nat.eq_zero_or_pos (digV t) with h3 | h3
        · rw [h3, Lib.decDigits_one (by decide)] at hi
          rw [← hi] at h48
          exact absurd rfl h48
        · exact h3
      rw [Lib.decDigits, dif_neg (by omega), show (10 * digV t + (c.toNat - 48)) / 10 = digV t by omega, hi, show (10 * digV t + (c.toNat - 48)) % 10 = c.toNat - 48 by omega, show 48 + (c.toNat - 48) = c.toNat by omega, UInt8.ofNat_toNat]
theorem decL_iff {l : List UInt8} : DecL l ↔ ∃ n, l = Lib.decDigits n := ⟨fun h => ⟨_, (dec_digV h).symm⟩, fun ⟨n, h⟩ => h ▸ decL_dec n⟩
theorem itoa_inj {a b : Int} (h : Lib.itoa a = Lib.itoa b) : a = b := by
  have hd : ∀ n c, (Lib.decDigits n).head? = some c → 48 ≤ c.toNat := fun n c hc => ((decL_dec n).2.1 c (List.mem_of_head? hc)).1
  have neg : ∀ n m : Nat, Lib.decDigits n = 45 :: Lib.decDigits m → False := fun n m e => by
    have := hd n 45 (by rw [e]; rfl)
    exact absurd this (by decide)
  unfold Lib.itoa at h
  split at h <;> split at h
  · have := congrArg digV (List.cons.inj h).2
    rw [digV_dec, digV_dec] at this
    omega
  · exact (neg _ _ h.symm).elim
  · exact (neg _ _ h).elim
  · have := congrArg digV h
    rw [digV_dec, digV_dec] at this
    omega
/-- Numerals of integers: digits, or a minus and digits that are not 0. -/
theorem itoa_neg_iff {l : List UInt8} : (∃ z : Int, z < 0 ∧ 45 :: l = Lib.itoa z) ↔ DecL l ∧ l.head? ≠ some 48 := by
  constructor
  · rintro ⟨z, hz, h⟩
    unfold Lib.itoa at h
    rw [if_pos hz] at h
    have hl := (List.cons.inj h).2
    refine ⟨decL_iff.2 ⟨_, hl⟩, fun h48 => ?_⟩
    have h1 := (decL_dec z.natAbs).2.2 (by rw [← hl]; exact h48)
    rw [hl] at h48
    rw [Lib.decDigits_length] at h1
    have h2 : z.natAbs < 10 := by
      have := Lib.lt_pow_nDigits z.natAbs
      rw [h1] at this
      omega
    rw [Lib.decDigits_one h2] at h48
    have h3 := congrArg UInt8.toNat (Option.some.inj h48)
    rw [UInt8.toNat_ofNat'] at h3
    have h5 : (48 : UInt8).toNat = 48 := rfl
    rw [h5] at h3
    omega
  · rintro ⟨h, h48⟩
    have hp : 0 < digV l := by
      rcases Nat.eq_zero_or_pos (digV l) with h3 | h3
      · have hi := dec_digV h
        rw [h3, Lib.decDigits_one (by decide)] at hi
        rw [← hi] at h48
        exact absurd rfl h48
      · exact h3
    refine ⟨-(digV l : Int), by omega, ?_⟩
    unfold Lib.itoa
    rw [if_pos (by omega), show (-(digV l : Int)).natAbs = digV l by omega, dec_digV h]
theorem itoa_pos {l : List UInt8} (h : DecL l) : l = Lib.itoa (digV l : Int) := by
  unfold Lib.itoa
  rw [if_neg (by omega), show ((digV l : Int)).toNat = digV l from rfl, dec_digV h]
theorem itoa_cases (z : Int) : (∃ l, Lib.itoa z = 45 :: l ∧ z < 0) ∨ DecL (Lib.itoa z) := by
  unfold Lib.itoa
  split
  · rename_i h; exact .inl ⟨_, rfl, h⟩
  · exact .inr (decL_dec _)
theorem dec_pos {l : List UInt8} (h : DecL l) (h48 : l.head? ≠ some 48) : 0 < digV l := by
  rcases Nat.eq_zero_or_pos (digV l) with h3 | h3
  · have hi := dec_digV h
    rw [h3, Lib.decDigits_one (by decide)] at hi
    rw [← hi] at h48
    exact absurd rfl h48
  · exact h3
theorem itoa_negV {l : List UInt8} (h : DecL l) (h48 : l.head? ≠ some 48) : 45 :: l = Lib.itoa (-(digV l : Int)) := by
  have hp := dec_pos h h48
  unfold Lib.itoa
  rw [if_pos (by omega), show (-(digV l : Int)).natAbs = digV l by omega, dec_digV h]
/-- The digits behind a sign, and whether there is one. -/
def NegS (s : List UInt8) : Prop := s.head? = some 45
instance (s : List UInt8) : Decidable (NegS s) := by unfold NegS; exact inferInstance
def Dgs (s : List UInt8) : List UInt8 := if NegS s then s.drop 1 else s
theorem dgs_neg {s : List UInt8} (h : NegS s) : s = 45 :: Dgs s := by
  unfold Dgs
  rw [if_pos h]
  unfold NegS at h
  cases s with
  | nil => cases h
  | cons c r => simp at h; subst h; rfl
theorem dgs_pos {s : List UInt8} (h : ¬ NegS s) : Dgs s = s := by unfold Dgs; rw [if_neg h]
theorem dgs_le (s : List UInt8) : (Dgs s).length ≤ s.length := by
  unfold Dgs
  split
  · rw [List.length_drop]; omega
  · exact Nat.le_refl _
/-- Which integer a numeral is of. -/
def numV (s : List UInt8) : Int := if NegS s then -(digV (Dgs s) : Int) else digV (Dgs s)
theorem num_val {s : List UInt8} (h : DecL (Dgs s)) (h48 : NegS s → (Dgs s).head? ≠ some 48) : s = Lib.itoa (numV s) := by
  unfold numV
  by_cases hn : NegS s
  · rw [if_pos hn, ← itoa_negV h (h48 hn)]
    exact dgs_neg hn
  · rw [if_neg hn, ← itoa_pos h]
    exact (dgs_pos hn).symm
theorem num_iff (s : List UInt8) : (∃ z, s = Lib.itoa z) ↔ DecL (Dgs s) ∧ (NegS s → (Dgs s).head? ≠ some 48) := by
  constructor
  · rintro ⟨z, hz⟩
    rcases itoa_cases z with ⟨l, hl, hneg⟩ | hd
    · have hn : NegS s := by unfold NegS; rw [hz, hl]; rfl
      have he := dgs_neg hn
      have h1 := itoa_neg_iff.1 ⟨z, hneg, hl.symm⟩
      rw [hz, hl] at he
      have e : Dgs s = l := by rw [hz, hl]; exact (List.cons.inj he).2.symm
      rw [e]
      exact ⟨h1.1, fun _ => h1.2⟩
    · rw [← hz] at hd
      have hn : ¬ NegS s := by
        intro hn
        unfold NegS at hn
        have := (hd.2.1 45 (List.mem_of_head? hn)).1
        exact absurd this (by decide)
      rw [dgs_pos hn]
      exact ⟨hd, fun h => absurd h hn⟩
  · rintro ⟨h, h48⟩
    exact ⟨_, num_val h h48⟩
end Go.Proofs.YtpmnjjmngogkkaaGreatDoor
end

section
/- Plain: which strings are fractions; how many digits numbers have. No program in sight. -/
set_option linter.unusedVariables false
set_option linter.unusedSimpArgs false
namespace Go.Proofs.YtpmnjjmngogkkaaGreatDoor
open Go Go.RowKit

theorem dec_no47 (n : Nat) : (47 : UInt8) ∉ Lib.decDigits n := fun h => by
  have := (decL_dec n).2.1 _ h
  unfold Dig at this
  have h47 : (47 : UInt8).toNat = 47 := rfl
  omega
theorem itoa_no47 (z : Int) : (47 : UInt8) ∉ Lib.itoa z := by
  unfold Lib.itoa
  split
  · intro h
    rcases List.mem_cons.1 h with h | h
    · cases h
    · exact dec_no47 _ h
  · exact dec_no47 _
theorem cut_inj : ∀ {a b c d : List UInt8}, (47 : UInt8) ∉ a → (47 : UInt8) ∉ c → a ++ 47 :: b = c ++ 47 :: d → a = c ∧ b = d := by
  intro a
  induction a with
  | nil =>
    intro b c d _ hc h
    cases c with
    | nil => simpa using h
    | cons y c =>
      simp only [List.nil_append, List.cons_append, List.cons.injEq] at h
      exact absurd (h.1 ▸ List.mem_cons_self ..) hc
  | cons x a ih =>
    intro b c d ha hc h
    cases c with
    | nil =>
      simp only [List.nil_append, List.cons_append, List.cons.injEq] at h
      exact absurd (h.1 ▸ List.mem_cons_self ..) ha
    | cons y c =>
      simp only [List.cons_append, List.cons.injEq] at h
      obtain ⟨h1, h2⟩ := ih (fun h => ha (List.mem_cons_of_mem _ h)) (fun h => hc (List.mem_cons_of_mem _ h)) h.2
      exact ⟨by rw [h.1, h1], h2⟩
theorem rstr_int {q : Rat} (h : q.den = 1) : rstr q = Lib.itoa q.num := by unfold rstr; rw [if_pos h, List.append_nil]
theorem rstr_frac {q : Rat} (h : q.den ≠ 1) : rstr q = Lib.itoa q.num ++ 47 :: Lib.decDigits q.den := by unfold rstr; rw [if_neg h]
/-- Without a stroke: an integer. -/
theorem rstr_none {s : List UInt8} (hs : (47 : UInt8) ∉ s) (q : Rat) : s = rstr q ↔ q.den = 1 ∧ s = Lib.itoa q.num := by
  by_cases h : q.den = 1
  · rw [rstr_int h]; exact ⟨fun h2 => ⟨h, h2⟩, fun h2 => h2.2⟩
  · constructor
    · intro h2
      rw [rstr_frac h] at h2
      exact absurd (h2 ▸ List.mem_append_right _ (List.mem_cons_self ..)) hs
    · exact fun h2 => absurd h2.1 h
/-- With one: two integers. -/
theorem rstr_cut {a b : List UInt8} (ha : (47 : UInt8) ∉ a) (q : Rat) : a ++ 47 :: b = rstr q ↔ q.den ≠ 1 ∧ a = Lib.itoa q.num ∧ b = Lib.decDigits q.den := by
  by_cases h : q.den = 1
  · constructor
    · intro h2
      rw [rstr_int h] at h2
      exact absurd (h2 ▸ List.mem_append_right _ (List.mem_cons_self ..)) (itoa_no47 _)
    · exact fun h2 => absurd h h2.1
  · rw [rstr_frac h]
    constructor
    · exact fun h2 => ⟨h, cut_inj ha (itoa_no47 _) h2⟩
    · rintro ⟨_, rfl, rfl⟩; rfl
theorem rat_of (n : Int) {d : Nat} (hd : d ≠ 0) (hg : Nat.gcd n.natAbs d = 1) : ∃ q : Rat, q.num = n ∧ q.den = d := ⟨⟨n, d, hd, hg⟩, rfl, rfl⟩
theorem rat_gcd (q : Rat) : Nat.gcd q.num.natAbs q.den = 1 := q.reduced
theorem rat_int (n : Int) : ((n : Int) : Rat).num = n ∧ ((n : Int) : Rat).den = 1 := ⟨rfl, rfl⟩
theorem rat_ext' {p q : Rat} (h1 : p.num = q.num) (h2 : p.den = q.den) : p = q := Rat.ext h1 h2
theorem rstr_inj {p q : Rat} (h : rstr p = rstr q) : p = q := by
  by_cases hp : p.den = 1
  · have h2 := (rstr_none (itoa_no47 p.num) q).1 ((rstr_int hp).symm.trans h)
    exact Rat.ext (itoa_inj h2.2) (hp.trans h2.1.symm)
  · have h2 := (rstr_cut (itoa_no47 p.num) q).1 ((rstr_frac hp).symm.trans h)
    refine Rat.ext (itoa_inj h2.2.1) ?_
    have h3 := congrArg digV h2.2.2
    rwa [digV_dec, digV_dec] at h3
/-- How long they are. -/
theorem num_len (q : Rat) : (Lib.itoa q.num).length ≤ (rstr q).length := by unfold rstr; rw [List.length_append]; omega
theorem den_len (q : Rat) : Lib.nDigits q.den ≤ (rstr q).length := by
  by_cases h : q.den = 1
  · rw [h, Lib.nDigits_small (by decide), rstr_int h]
    cases h2 : Lib.itoa q.num with
    | nil =>
      unfold Lib.itoa at h2
      split at h2
      · cases h2
      · exact absurd h2 (dec_ne _)
    | cons x l => simp
  · rw [rstr_frac h, List.length_append, List.length_cons, Lib.decDigits_length]; omega

/-- Digits, shifted. -/
theorem nDigits_shift (k : Nat) : ∀ {n : Nat}, 10 ^ k ≤ n → Lib.nDigits n = Lib.nDigits (n / 10 ^ k) + k := by
  induction k with
  | zero => intro n _; simp
  | succ k ih =>
    intro n h
    have h10 : 10 ≤ n := Nat.le_trans (Nat.le_self_pow (n := k + 1) (by omega) 10) h
    rw [Lib.nDigits_big (by omega), ih (n := n / 10) ((Nat.le_div_iff_mul_le (by omega)).2 (by rwa [← Nat.pow_succ])), Nat.div_div_eq_div_mul, show 10 * 10 ^ k = 10 ^ (k + 1) from (Nat.pow_succ').symm]
    omega
theorem nDigits_ge {n : Nat} (h : 0 < n) : 10 ^ (Lib.nDigits n - 1) ≤ n := by
  by_cases h2 : 10 ^ (Lib.nDigits n - 1) ≤ n
  · exact h2
  · have h3 := Lib.nDigits_pos n
    by_cases h4 : Lib.nDigits n - 1 = 0
    · rw [h4]; exact h
    · have := nDigits_le (u := n) (k := Lib.nDigits n - 1) (by omega) (by omega)
      omega
theorem big_low10 : 10 ^ 30102 ≤ Big := by
  rw [big_def]
  exact Nat.le_of_ble_eq_true (by kernel_rfl)
theorem big_high10 : Big < 10 ^ 30103 := by
  rw [big_def]
  exact Nat.le_of_ble_eq_true (by kernel_rfl)
theorem pow_mono_10 {i j : Nat} (h : i ≤ j) : 10 ^ i ≤ 10 ^ j := Nat.pow_le_pow_right (by decide) h
theorem big_few {n : Nat} (h : Lib.nDigits n ≤ 30102) : n < Big := Nat.lt_of_lt_of_le (Lib.lt_pow_nDigits n) (Nat.le_trans (pow_mono_10 h) big_low10)
theorem big_many {n : Nat} (h : 30103 < Lib.nDigits n) : ¬ n < Big := by
  have hn : 0 < n := by
    rcases Nat.eq_zero_or_pos n with h0 | h0
    · subst h0; rw [Lib.nDigits_small (by decide)] at h; omega
    · exact h0
  have h1 := nDigits_ge hn
  have h2 := pow_mono_10 (i := 30103) (j := Lib.nDigits n - 1) (by omega)
  have h3 := big_high10
  exact Nat.not_lt.2 (Nat.le_trans (Nat.le_of_lt h3) (Nat.le_trans h2 h1))
theorem abs_digits (z : Int) : Lib.nDigits z.natAbs ≤ (Lib.itoa z).length := by
  unfold Lib.itoa
  split
  · rw [List.length_cons, Lib.decDigits_length]; omega
  · rw [Lib.decDigits_length, show z.toNat = z.natAbs by omega]; exact Nat.le_refl _
theorem fits_len {q : Rat} (h : (rstr q).length ≤ 30102) : Fits q :=
  ⟨big_few (Nat.le_trans (abs_digits _) (Nat.le_trans (num_len q) h)), big_few (Nat.le_trans (den_len q) h)⟩
theorem dl_digits {n k : Nat} (h : Lib.nDigits n ≤ 9 * k) : dl n ≤ k := by
  refine dl_le ?_
  rw [pow_nine]
  exact Nat.lt_of_lt_of_le (Lib.lt_pow_nDigits n) (Nat.pow_le_pow_right (by omega) h)
theorem rl_len {q : Rat} {k : Nat} (h : (rstr q).length ≤ 9 * k) : rl q k :=
  ⟨dl_digits (Nat.le_trans (abs_digits _) (Nat.le_trans (num_len q) h)), dl_digits (Nat.le_trans (den_len q) h)⟩
end Go.Proofs.YtpmnjjmngogkkaaGreatDoor
end

section
/- A field of a struct's value. It holds for every program. -/
set_option linter.unusedVariables false
set_option linter.unusedSimpArgs false
namespace Go.Proofs.YtpmnjjmngogkkaaGreatDoor
open Go Go.RowKit

class FldV (P : Program) (T : TypeId) (f : Nat) (t : outParam TypeId) (off : outParam Nat) : Prop where
  fld : ∃ fs fd, P.underlying T = some (.struct fs) ∧ fs[f]? = some fd ∧ fd.type = t ∧ fd.offset = off
section rules
variable {P : Program} {n : Nat} {Q : Post} {ρ : Fr} {w : World} {all rest : List Oper} {d : Tmp} {ty : TypeId} {pos : String} {aft : Array Edge}
/-- x.f, one cell. -/
theorem r_fieldV {T t : TypeId} {f off s b : Nat} {z : Value} [ft : FldV P T f t off] [ti : TyI P t s b z false] {x : Operand} {cs : List Value} {u : Value}
    (hx : ev ρ x = .agg cs.toArray) (hu : cs[off]? = some u) (h : WpR P n all Q rest (upd ρ d u) w) : WpR P n all Q (⟨some d, .field T x f, ty, pos, aft, none⟩ :: rest) ρ w := by
  obtain ⟨fs, fd, h1, h2, h3, h4⟩ := ft.fld
  refine r_val rfl rfl ?_ h
  subst h3 h4
  simp [execOp, hx, Instr.field, run_underlying h1, h2, asAgg, part, ti.runAgg w, hu]
/-- x.f, some cells. -/
theorem r_fieldA {T t : TypeId} {f off s b : Nat} {z : Value} [ft : FldV P T f t off] [ti : TyI P t s b z true] {x : Operand} {cs us : List Value}
    (hx : ev ρ x = .agg cs.toArray) (hu : (cs.drop off).take s = us) (h : WpR P n all Q rest (upd ρ d (.agg us.toArray)) w) : WpR P n all Q (⟨some d, .field T x f, ty, pos, aft, none⟩ :: rest) ρ w := by
  obtain ⟨fs, fd, h1, h2, h3, h4⟩ := ft.fld
  refine r_val rfl rfl ?_ h
  subst h3 h4 hu
  simp [execOp, hx, Instr.field, run_underlying h1, h2, asAgg, part, ti.runAgg w, ti.runSize w, List.extract_toArray, List.extract_eq_drop_take']
end rules
end Go.Proofs.YtpmnjjmngogkkaaGreatDoor
end

section
/- Variables that are made and written at once. It holds for every program. -/
set_option linter.unusedVariables false
set_option linter.unusedSimpArgs false
namespace Go.Proofs.YtpmnjjmngogkkaaGreatDoor
open Go Go.RowKit

section rules
variable {P : Program} {n : Nat} {Q : Post} {ρ : Fr} {w : World} {all rest : List Oper} {d d2 : Tmp} {ty ty2 ty3 ty4 : TypeId} {pos pos2 pos3 pos4 : String} {aft aft2 aft3 aft4 : Array Edge}
/-- x := v -/
theorem r_new {T : TypeId} {s b : Nat} {z : Value} {agg : Bool} [ti : TyI P T s b z agg] {y : Operand} {us zs : List Value} {u : Value} (hz : z.cells = zs.toArray) (hy : ∀ g, ev (upd ρ d (.pointer (some ⟨g, 0, none⟩))) y = u) (hc : u.cells = us.toArray)
    (hl : us.length = s) (h1 : ∀ v ∈ us, v.oneCell' = true) (h : ∀ w' g, Ext w w' → w.heap.size ≤ g → Blk w' g T us → WpR P n all Q rest (upd ρ d (.pointer (some ⟨g, 0, none⟩))) w') :
    WpR P n all Q (⟨some d, .alloc T, ty, pos, aft, none⟩ :: ⟨none, .store T (.tmp d) y, ty2, pos2, aft2, none⟩ :: rest) ρ w := by
  refine r_alloc hz ?_
  intro w1 g k1 hg hgs
  have hzl : zs.length = s := by
    have := ti.zsize
    rw [hz] at this
    simpa using this
  refine r_store_all (us := us) (upd_same _ _ _) (hy g) hc hl hg hzl h1 ?_
  intro w2 k2 hg2
  exact h w2 g (k1.past k2 hgs) hgs hg2
/-- x, y := u, v -/
theorem r_new2 {T T2 : TypeId} {s b s2 b2 : Nat} {z z2 : Value} {agg agg2 : Bool} [ti : TyI P T s b z agg] [ti2 : TyI P T2 s2 b2 z2 agg2] {y y2 : Operand} {us zs us2 zs2 : List Value} {u u2 : Value} (hd : Nat.beq d d2 = false)
    (hz : z.cells = zs.toArray) (hz2 : z2.cells = zs2.toArray) (hy : ∀ g g2, ev (upd (upd ρ d (.pointer (some ⟨g, 0, none⟩))) d2 (.pointer (some ⟨g2, 0, none⟩))) y = u) (hy2 : ∀ g g2, ev (upd (upd ρ d (.pointer (some ⟨g, 0, none⟩))) d2 (.pointer (some ⟨g2, 0, none⟩))) y2 = u2)
    (hc : u.cells = us.toArray) (hc2 : u2.cells = us2.toArray) (hl : us.length = s) (hl2 : us2.length = s2) (h1 : ∀ v ∈ us, v.oneCell' = true) (h2 : ∀ v ∈ us2, v.oneCell' = true)
    (h : ∀ w' g g2, Ext w w' → w.heap.size ≤ g → w.heap.size ≤ g2 → g ≠ g2 → Blk w' g T us → Blk w' g2 T2 us2 → WpR P n all Q rest (upd (upd ρ d (.pointer (some ⟨g, 0, none⟩))) d2 (.pointer (some ⟨g2, 0, none⟩))) w') :
    WpR P n all Q (⟨some d, .alloc T, ty, pos, aft, none⟩ :: ⟨some d2, .alloc T2, ty2, pos2, aft2, none⟩ :: ⟨none, .store T (.tmp d) y, ty3, pos3, aft3, none⟩ :: ⟨none, .store T2 (.tmp d2) y2, ty4, pos4, aft4, none⟩ :: rest) ρ w := by
  refine r_alloc hz ?_
  intro w1 g k1 hg hgs
  refine r_alloc hz2 ?_
  intro w2 g2 k2 hg2 hgs2
  have hne := hg.lt
  have hs1 := k1.size
  have zl : ∀ {z : Value} {zs : List Value} {s : Nat}, z.cells = zs.toArray → z.cells.size = s → zs.length = s := by
    intro z zs s h1 h2
    rw [h1] at h2
    simpa using h2
  refine r_store_all (us := us) (by show upd _ _ _ d = _; rw [upd_ne hd, upd_same]) (hy g g2) hc hl (hg.to k2) (zl hz ti.zsize) h1 ?_
  intro w3 k3 hg3
  refine r_store_all (us := us2) (upd_same _ _ _) (hy2 g g2) hc2 hl2 (hg2.wr k3 (by omega)) (zl hz2 ti2.zsize) h2 ?_
  intro w4 k4 hg4
  exact h w4 g g2 (((k1.trans k2).past k3 hgs).past k4 (by omega)) hgs (by omega) (by omega) (hg3.wr k4 (by omega)) hg4
end rules
end Go.Proofs.YtpmnjjmngogkkaaGreatDoor
end

section
/- The reference: how many digits a number has, powers of two, which fractions are small. -/
set_option linter.unusedVariables false
set_option linter.unusedSimpArgs false
namespace Go.Proofs.YtpmnjjmngogkkaaGreatDoor
open Go Go.RowKit

instance : FldV Tryz.prog 31 1 29 1 := ⟨⟨_, _, Tryz.underlying31, rfl, rfl, rfl⟩⟩
theorem nDigits_top {a : Nat} (h : 0 < (dg a).length) : 0 < (dg a).getD ((dg a).length - 1) 0 ∧ Lib.nDigits a = 9 * ((dg a).length - 1) + Lib.nDigits ((dg a).getD ((dg a).length - 1) 0) ∧ (dg a).getD ((dg a).length - 1) 0 < 1000000000 := by
  have h1 : 1000000000 ^ ((dg a).length - 1) ≤ a := dl_low (a := a) h
  have h2 : a < 1000000000 ^ (dg a).length := lt_pow_dl a
  have h3 := dg_digit a ((dg a).length - 1)
  have hp : 0 < 1000000000 ^ ((dg a).length - 1) := Nat.pow_pos (by decide)
  have h4 : 1000000000 ^ (dg a).length = 1000000000 * 1000000000 ^ ((dg a).length - 1) := by
    rw [← Nat.pow_succ']
    congr 1
    omega
  rw [h4] at h2
  have h5 : a / 1000000000 ^ ((dg a).length - 1) < 1000000000 := (Nat.div_lt_iff_lt_mul hp).2 h2
  rw [Nat.mod_eq_of_lt h5] at h3
  rw [h3]
  refine ⟨Nat.div_pos h1 hp, ?_, h5⟩
  rw [pow_nine] at h1 ⊢
  rw [nDigits_shift _ h1]
  omega
theorem zlen_c {S : Nat → Prop} {w : World} {va : Value} {a : Nat} (ha : NatV S 3 .i64 w va a) (hla : dl a ≤ 16000000000000) :
    Gives Tryz.prog 160 [va] w fun v' w' => v' = .int .i64 (Lib.nDigits a : Nat) ∧ Ext w w' := by
  have hml : (dg a).length ≤ 16000000000000 := hla
  have hz := @dl_eq_zero a
  unfold dl at hz
  refine gives_of Tryz.func160 rfl rfl rfl ?_
  repeat (first | refine wp_seq_region ?_ | refine wp_seq_seq ?_ | refine wp_region ?_ | refine r_move (by conv => (lhs; whnf)) ?_ | refine r_assign (by conv => (lhs; whnf)) ?_ | refine r_nil ?_ | refine q_then ?_ | refine r_len (by conv => (lhs; whnf)) (by assumption) ?_ | refine r_eql rfl rfl ?_)
  try refine wp_seq_cond ?_
  refine wp_cond_dec rfl ?_ ?_ <;> intro h0
  · have ha0 : a = 0 := hz.1 (by omega)
    repeat (first | refine wp_seq_region ?_ | refine wp_region ?_ | refine r_assign (by conv => (lhs; whnf)) ?_ | refine r_nil ?_ | refine q_then ?_ | refine wp_ret ?_ | refine q_then_ret ?_)
    refine end_tmp rfl (by conv => (lhs; whnf)) ⟨?_, .refl⟩
    rw [ha0, Lib.nDigits_small (by decide)]
    rfl
  · obtain ⟨t1, t2, t3⟩ := nDigits_top (a := a) (by omega)
    repeat (first | refine r_mulI rfl rfl (by omega) (by omega) ?_ | refine r_index1 (i := (dg a).length - 1) (by conv => (lhs; whnf)) (by conv => (lhs; whnf)) (by omega) ha (by omega) ?_ | refine r_load_dig rfl ha (by omega) ?_ | refine wp_seq_region ?_ | refine wp_seq_seq ?_ | refine wp_region ?_ | refine r_move (by conv => (lhs; whnf)) ?_ | refine r_assign (by conv => (lhs; whnf)) ?_ | refine r_nil ?_ | refine q_then ?_ | refine wp_skip ?_ | refine r_len (by conv => (lhs; whnf)) (by assumption) ?_ | refine r_subI rfl rfl (by omega) (by omega) ?_)
    generalize (dg a).getD ((dg a).length - 1) 0 = t at *
    try refine wp_seq_block ?_
    refine wp_for [(3, 4), (18, 23)] (fun v ρ w' => w' = w ∧ ∃ m : Nat, ρ 4 = .int .i64 (v : Int) ∧ ρ 3 = .int .i64 (m : Int) ∧ v ≤ t ∧ m + (if v = 0 then 0 else Lib.nDigits v) = Lib.nDigits a ∧ m ≤ Lib.nDigits a) t ?_ ?_
    · exact ⟨rfl, 9 * ((dg a).length - 1), rfl, congrArg (Value.int .i64) (by omega), Nat.le_refl _, by rw [if_neg (by omega)]; omega, by omega⟩
    rintro v u w1 ⟨rfl, m, h4, h3, hvt, hm, hma⟩
    refine wp_learn 4 h4 (wp_learn 3 h3 ?_)
    clear h4 h3
    have hmax : Lib.nDigits a ≤ 9 * ((dg a).length - 1) + 9 := by have := nDigits_limb t3; omega
    repeat (first | refine wp_seq_region ?_ | refine wp_seq_seq ?_ | refine wp_region ?_ | refine r_move (by conv => (lhs; whnf)) ?_ | refine r_nil ?_ | refine q_then ?_ | refine r_gtr rfl rfl ?_)
    try refine wp_seq_cond ?_
    refine wp_cond_dec rfl ?_ ?_ <;> intro hc
    · have hv0 : 0 < v := by omega
      rw [if_neg (by omega)] at hm
      have hpos := Lib.nDigits_pos v
      repeat (first | refine wp_seq_bregion ?_ | refine wp_region ?_ | refine r_move (by conv => (lhs; whnf)) ?_ | refine r_assign (by conv => (lhs; whnf)) ?_ | refine r_nil ?_ | refine q_then ?_ | refine wp_block_region ?_ | refine wp_skip ?_ | refine r_addI rfl rfl (by omega) (by omega) ?_ | refine r_quoI rfl rfl (by omega) (by omega) (by omega) ?_)
      refine ⟨by (repeat (first | refine agree_upd rfl ?_ | exact agree_over | refine agree_sub rfl ?_ | exact agree_refl | refine agree_base rfl ?_ | refine agree_base' rfl ?_)), v / 10, by omega, rfl, m + 1, by rfl, congrArg (Value.int .i64) (by omega), by omega, ?_, by omega⟩
      by_cases h10 : v < 10
      · rw [if_pos (by omega)]
        rw [Lib.nDigits_small h10] at hm
        omega
      · rw [if_neg (by omega)]
        rw [Lib.nDigits_big h10] at hm
        omega
    · obtain rfl : v = 0 := by omega
      rw [if_pos rfl] at hm
      repeat (first | refine wp_seq_region ?_ | refine wp_region ?_ | refine r_move (by conv => (lhs; whnf)) ?_ | refine r_assign (by conv => (lhs; whnf)) ?_ | refine r_nil ?_ | refine q_then ?_ | refine wp_ret ?_ | refine wp_exit ?_)
      refine end_tmp rfl (by conv => (lhs; whnf)) ⟨congrArg (Value.int .i64) (by omega), .refl⟩

theorem zl_two (n P : Nat) (hP : P = 2 ^ n) : zl (P : Int) ≤ n + 1 := by
  unfold zl
  rw [Int.natAbs_natCast, hP]
  refine dl_le (Nat.lt_of_le_of_lt (Nat.pow_le_pow_left (by decide : 2 ≤ 1000000000) n) ?_)
  exact Nat.pow_lt_pow_right (by decide) (by omega)
theorem two_c {S : Nat → Prop} (n : Nat) : ∀ {w : World} (P : Nat) (I : Int), n ≤ 100000 → P = 2 ^ n → I = (n : Int) → Up S w →
    Gives Tryz.prog 185 [.int .i64 I] w fun v' w' => Ext w w' ∧ ZV S w' v' (P : Int) := by
  induction n using Nat.strongRecOn with
  | _ n ih =>
  intro w P I hn hP hI hS
  subst hI
  refine gives_of Tryz.func185 rfl rfl rfl ?_
  have k : Ext w w := .refl
  repeat (first | refine wp_seq_region ?_ | refine wp_region ?_)
  refine r_alloc (cs := [.bool false, .slice none 0 0]) rfl ?_
  intro w_1 g k_1 hg hs_1
  have hsg : w.heap.size ≤ g := Nat.le_trans k.size hs_1
  clear hs_1
  replace hS := hS.to k_1
  replace k := k.trans k_1
  clear k_1
  repeat (first | refine wp_seq_region ?_ | refine wp_seq_seq ?_ | refine wp_region ?_ | refine r_move (by conv => (lhs; whnf)) ?_ | refine r_nil ?_ | refine q_then ?_ | refine r_eql rfl rfl ?_)
  try refine wp_seq_cond ?_
  refine wp_cond_dec rfl ?_ ?_ <;> intro h0
  · obtain rfl : n = 0 := by omega
    rw [Nat.pow_zero] at hP
    subst hP
    repeat (first | refine wp_seq_region ?_ | refine wp_region ?_)
    refine r_call (zof_c (z := 1) hS (by decide) (by decide)) rfl ?_
    rintro v_2 w_2 ⟨k_2, m1, rfl, h1⟩
    replace hS := hS.to k_2
    replace hg := hg.to k_2
    replace k := k.trans k_2
    clear k_2
    refine r_store2 rfl rfl hg rfl h1.one ?_
    intro w_3 k_3 h_3
    replace hS := hS.to k_3
    replace h1 := h1.wrT k_3 hg (by decide)
    replace k : Ext w w_3 := k.past k_3 hsg
    replace hg := h_3
    clear h_3 k_3
    repeat (first | refine r_nil ?_ | refine q_then ?_ | refine wp_ret ?_ | refine q_then_ret ?_)
    exact end1 rfl (resV_agg (by conv => (lhs; whnf)) hg rfl) ⟨k, m1, rfl, h1⟩
  · repeat (first | refine wp_seq_region ?_ | refine wp_region ?_ | refine r_move (by conv => (lhs; whnf)) ?_ | refine wp_skip ?_ | refine r_quoI rfl rfl (by omega) (by omega) (by omega) ?_)
    refine r_call (ih (n / 2) (by omega) (2 ^ (n / 2)) _ (by omega) rfl (by omega) hS) rfl ?_
    rintro v_2 w_2 ⟨k_2, mh, rfl, h1⟩
    replace hS := hS.to k_2
    replace hg := hg.to k_2
    replace k := k.trans k_2
    clear k_2
    have hz1 := zl_two (n / 2) _ rfl
    obtain ⟨H, hH⟩ : ∃ H, H = 2 ^ (n / 2) := ⟨_, rfl⟩
    rw [← hH] at h1 hz1 ⊢
    have hHH : P = if n % 2 = 1 then H * H + H * H else H * H := by
      rw [hP, hH]
      conv => lhs; rw [← Nat.div_add_mod n 2, Nat.pow_add, Nat.pow_mul, show 2 ^ 2 = 2 * 2 from rfl, Nat.mul_pow]
      split
      · rename_i h; rw [h]; omega
      · rename_i h; rw [show n % 2 = 0 by omega]; simp
    have hm := zl_mul (H : Int) H
    clear hP
    skip
    refine r_new (zs := [.bool false, .slice none 0 0]) (us := [.bool (tst ((H : Int) < 0)), mh]) rfl (fun _ => rfl) rfl rfl (ones2 rfl h1.one) ?_
    intro w_3 gh k_3 hs_3 hgh
    have hsgh : w.heap.size ≤ gh := Nat.le_trans k.size hs_3
    have ne_g_gh : g ≠ gh := fun e => by have := hg.lt; omega
    clear hs_3
    replace hS := hS.to k_3
    replace hg := hg.to k_3
    replace h1 := h1.to k_3
    replace k := k.trans k_3
    clear k_3
    repeat (first | refine r_load_all rfl hgh rfl ?_ | refine wp_seq_region ?_ | refine wp_region ?_ | refine r_nil ?_)
    refine r_call (zmul_c (a := (H : Int)) (b := (H : Int)) hS ⟨mh, rfl, h1⟩ ⟨mh, rfl, h1⟩ (by omega) (by omega)) rfl ?_
    rintro v_4 w_4 ⟨k_4, mo, rfl, h2⟩
    replace hS := hS.to k_4
    replace hg := hg.to k_4
    replace h1 := h1.to k_4
    replace hgh := hgh.to k_4
    replace k := k.trans k_4
    clear k_4
    skip
    refine r_new (zs := [.bool false, .slice none 0 0]) (us := [.bool (tst ((H : Int) * H < 0)), mo]) rfl (fun _ => rfl) rfl rfl (ones2 rfl h2.one) ?_
    intro w_5 go k_5 hs_5 hgo
    have hsgo : w.heap.size ≤ go := Nat.le_trans k.size hs_5
    have ne_g_go : g ≠ go := fun e => by have := hg.lt; omega
    have ne_gh_go : gh ≠ go := fun e => by have := hgh.lt; omega
    clear hs_5
    replace hS := hS.to k_5
    replace hg := hg.to k_5
    replace h1 := h1.to k_5
    replace hgh := hgh.to k_5
    replace h2 := h2.to k_5
    replace k := k.trans k_5
    clear k_5
    have ha := zl_add ((H : Int) * H) (H * H)
    repeat (first | refine wp_seq_region ?_ | refine wp_seq_seq ?_ | refine wp_region ?_ | refine r_move (by conv => (lhs; whnf)) ?_ | refine r_nil ?_ | refine q_then ?_ | refine r_eql rfl rfl ?_ | refine r_remP rfl rfl (by omega) (by omega) ?_)
    try refine wp_seq_cond ?_
    refine wp_cond_dec rfl ?_ ?_ <;> intro hodd
    · have hpo : P = H * H + H * H := by rw [hHH, if_pos (by omega)]
      subst hpo
      repeat (first | refine r_load_all rfl hgo rfl ?_ | refine wp_region ?_)
      refine r_call (zadd_c (a := (H : Int) * H) (b := (H : Int) * H) hS ⟨mo, rfl, h2⟩ ⟨mo, rfl, h2⟩ (by omega) (by omega)) rfl ?_
      rintro v_6 w_6 ⟨k_6, mr, rfl, h3⟩
      replace hS := hS.to k_6
      replace hg := hg.to k_6
      replace h1 := h1.to k_6
      replace hgh := hgh.to k_6
      replace h2 := h2.to k_6
      replace hgo := hgo.to k_6
      replace k := k.trans k_6
      clear k_6
      refine r_store2 rfl rfl hgo rfl h3.one ?_
      intro w_7 k_7 h_7
      replace hS := hS.to k_7
      replace hg := hg.wr k_7 (by omega)
      replace h3 := h3.wrT k_7 hgo (by decide)
      replace k : Ext w w_7 := k.past k_7 hsgo
      replace hgo := h_7
      clear h_7 k_7
      repeat (first | refine r_load_all rfl hgo rfl ?_ | refine wp_seq_region ?_ | refine wp_region ?_ | refine r_nil ?_)
      refine r_store2 rfl rfl hg rfl h3.one ?_
      intro w_8 k_8 h_8
      replace hS := hS.to k_8
      replace hgo := hgo.wr k_8 (by omega)
      replace h3 := h3.wrT k_8 hg (by decide)
      replace k : Ext w w_8 := k.past k_8 hsg
      replace hg := h_8
      clear h_8 k_8
      repeat (first | refine r_nil ?_ | refine q_then ?_ | refine wp_ret ?_)
      exact end1 rfl (resV_agg (by conv => (lhs; whnf)) hg rfl) ⟨k, mr, rfl, h3⟩
    · have hpo : P = H * H := by rw [hHH, if_neg (by omega)]
      subst hpo
      repeat (first | refine r_load_all rfl hgo rfl ?_ | refine wp_seq_region ?_ | refine wp_region ?_ | refine wp_skip ?_)
      refine r_store2 rfl rfl hg rfl h2.one ?_
      intro w_6 k_6 h_6
      replace hS := hS.to k_6
      replace h2 := h2.wrT k_6 hg (by decide)
      replace hgo := hgo.wr k_6 (by omega)
      replace k : Ext w w_6 := k.past k_6 hsg
      replace hg := h_6
      clear h_6 k_6
      repeat (first | refine r_nil ?_ | refine q_then ?_ | refine wp_ret ?_)
      exact end1 rfl (resV_agg (by conv => (lhs; whnf)) hg rfl) ⟨k, mo, rfl, h2⟩
theorem two_big {S : Nat → Prop} {w : World} (hS : Up S w) : Gives Tryz.prog 185 [.int .i64 100000] w fun v' w' => Ext w w' ∧ ZV S w' v' (Big : Int) :=
  @two_c S 100000 w Big 100000 (Nat.le_refl _) big_def rfl hS

theorem small_iff (n : Nat) : (Lib.nDigits n < 30103 → n < Big) ∧ (30105 < Lib.nDigits n → ¬ n < Big) := ⟨fun h => big_few (by omega), fun h => big_many (by omega)⟩
theorem zsmall_c {S : Nat → Prop} {w : World} {v : Value} {z : Int} (hS : Up S w) (h : ZV S w v z) (hl : zl z ≤ 16000000000000) :
    Gives Tryz.prog 152 [v] w fun v' w' => v' = .bool (tst (z.natAbs < Big)) ∧ Ext w w' := by
  obtain ⟨m, rfl, hm⟩ := h
  obtain ⟨s1, s2⟩ := small_iff z.natAbs
  have hnd : Lib.nDigits z.natAbs ≤ 9 * (dg z.natAbs).length + 1 := nDigits_le_dl _ (Nat.le_refl _)
  have hml : (dg z.natAbs).length ≤ 16000000000000 := hl
  refine gives_of Tryz.func152 rfl rfl rfl ?_
  have k : Ext w w := .refl
  repeat (first | refine wp_seq_region ?_ | refine wp_region ?_)
  refine r_box (cs := [.bool (tst (z < 0)), m]) (by conv => (lhs; whnf)) rfl ?_
  intro w_1 g k_1 hg hs_1
  have hsg : w.heap.size ≤ g := Nat.le_trans k.size hs_1
  clear hs_1
  replace hS := hS.to k_1
  replace hm := hm.to k_1
  replace k := k.trans k_1
  clear k_1
  repeat (first | refine r_load_blk rfl hg rfl ?_ | refine wp_seq_region ?_ | refine wp_seq_seq ?_ | refine wp_region ?_ | refine r_assign (by conv => (lhs; whnf)) ?_ | refine r_nil ?_ | refine r_field rfl ?_)
  refine r_call (zlen_c hm hml) rfl ?_
  rintro v_2 w_2 ⟨rfl, k_2⟩
  replace hS := hS.to k_2
  replace hm := hm.to k_2
  replace hg := hg.to k_2
  replace k := k.trans k_2
  clear k_2
  repeat (first | refine r_move (by conv => (lhs; whnf)) ?_ | refine r_nil ?_ | refine q_then ?_ | refine r_lss rfl rfl ?_)
  try refine wp_seq_cond ?_
  refine wp_cond_dec rfl ?_ ?_ <;> intro h1
  · repeat (first | refine wp_seq_region ?_ | refine wp_region ?_ | refine r_assign (by conv => (lhs; whnf)) ?_ | refine r_nil ?_ | refine q_then ?_ | refine wp_ret ?_ | refine q_then_ret ?_)
    exact end_tmp rfl (by conv => (lhs; whnf)) ⟨by rw [tst_true (s1 (by omega))], k⟩
  · repeat (first | refine r_load_blk rfl hg rfl ?_ | refine wp_seq_region ?_ | refine wp_region ?_ | refine r_field rfl ?_)
    refine r_call (zlen_c hm hml) rfl ?_
    rintro v_3 w_3 ⟨rfl, k_3⟩
    replace hS := hS.to k_3
    replace hm := hm.to k_3
    replace hg := hg.to k_3
    replace k := k.trans k_3
    clear k_3
    repeat (first | refine r_move (by conv => (lhs; whnf)) ?_ | refine r_nil ?_ | refine q_then ?_ | refine r_gtr rfl rfl ?_ | refine r_addI rfl rfl (by omega) (by omega) ?_)
    try refine wp_seq_cond ?_
    refine wp_cond_dec rfl ?_ ?_ <;> intro h2
    · repeat (first | refine wp_seq_region ?_ | refine wp_region ?_ | refine r_assign (by conv => (lhs; whnf)) ?_ | refine r_nil ?_ | refine q_then ?_ | refine wp_ret ?_ | refine q_then_ret ?_)
      exact end_tmp rfl (by conv => (lhs; whnf)) ⟨by rw [tst_false (s2 (by omega))], k⟩
    · repeat (first | refine wp_seq_region ?_ | refine wp_skip ?_)
      refine wp_drawn 5 (by kernel_rfl) (by kernel_rfl) ?_
      apply ob_step
      · intro x w1 k1 hd
        refine r_field rfl ?_
        refine r_nil ?_
        exact ob_eq
      apply ob_step
      · intro x w1 k1 hd
        refine r_load_blk rfl (hg.to k1) rfl ?_
        refine r_nil ?_
        exact ob_eq
      refine ob_step (e := zE S (Big : Int)) ?_ ?_
      · intro x w1 k1 hd
        refine r_call (two_big (hS.to k1)) rfl ?_
        rintro v2 w2 ⟨k2, h2⟩
        exact r_nil (ob_of k2 h2)
      refine ob_step (e := nE S Big) ?_ ?_
      · intro x w1 k1 hd
        obtain ⟨mb, hx, hb⟩ : ZV S w1 (x 2) (Big : Int) := hd.1
        rw [Int.natAbs_natCast] at hb
        refine r_fieldV (cs := [.bool (tst ((Big : Int) < 0)), mb]) hx rfl ?_
        refine r_nil (ob_of .refl ?_)
        exact hb
      refine ob_step (e := Ent.of (fun v _ => ∃ c : Int, v = .int .i64 c ∧ CmpOk c z.natAbs Big) fun v w w' h _ => h) ?_ ?_
      · intro x w1 k1 hd
        refine r_call (cmpN_c (S := S) (hm.to k1) hd.1) rfl ?_
        rintro v2 w2 ⟨k2, h2⟩
        exact r_nil (ob_of k2 h2)
      refine ob_nil (ob_end ?_)
      intro x w7 k7 hall
      obtain ⟨c, hc, h1', h2'⟩ : ∃ c : Int, x 4 = .int .i64 c ∧ CmpOk c z.natAbs Big := hall.1
      refine r_lss hc rfl ?_
      repeat (first | refine r_assign (by conv => (lhs; whnf)) ?_ | refine r_nil ?_ | refine q_then ?_ | refine wp_ret ?_)
      refine end_tmp rfl (by conv => (lhs; whnf)) ⟨?_, k.trans k7⟩
      exact congrArg Value.bool (tst_congr (by omega))
theorem zfits_c {S : Nat → Prop} {w : World} {v : Value} {q : Rat} (hS : Up S w) (h : QV S w v q) (hl : rl q 16000000000000) :
    Gives Tryz.prog 110 [v] w fun v' w' => v' = .bool (tst (Fits q)) ∧ Ext w w' := by
  obtain ⟨m, b, rfl, hm, hb⟩ := h
  refine gives_of Tryz.func110 rfl rfl rfl ?_
  have k : Ext w w := .refl
  repeat (first | refine wp_seq_region ?_ | refine wp_region ?_)
  refine r_box (cs := [.bool (tst (q.num < 0)), m, .bool (tst ((q.den : Int) < 0)), b]) (by conv => (lhs; whnf)) rfl ?_
  intro w_1 g k_1 hg hs_1
  have hsg : w.heap.size ≤ g := Nat.le_trans k.size hs_1
  clear hs_1
  replace hS := hS.to k_1
  replace hm := hm.to k_1
  replace hb := hb.to k_1
  replace k := k.trans k_1
  clear k_1
  repeat (first | refine r_load_part rfl hg rfl rfl ?_ | refine wp_seq_region ?_ | refine wp_region ?_ | refine r_assign (by conv => (lhs; whnf)) ?_ | refine r_nil ?_ | refine r_field rfl ?_)
  refine r_call (zsmall_c (z := q.num) hS ⟨m, rfl, hm⟩ hl.1) rfl ?_
  rintro v_2 w_2 ⟨rfl, k_2⟩
  replace hS := hS.to k_2
  replace hm := hm.to k_2
  replace hb := hb.to k_2
  replace hg := hg.to k_2
  replace k := k.trans k_2
  clear k_2
  repeat (first | refine r_move (by conv => (lhs; whnf)) ?_)
  refine r_guard_split rfl rfl ?_ ?_ <;> intro h1
  · repeat (first | refine r_load_part rfl hg rfl rfl ?_ | refine r_guard_run rfl rfl ?_ | refine r_field rfl ?_)
    refine r_call (zsmall_c (z := (q.den : Int)) hS ⟨b, rfl, by rw [Int.natAbs_natCast]; exact hb⟩ (by unfold zl; rw [Int.natAbs_natCast]; exact hl.2)) rfl ?_
    rintro v_3 w_3 ⟨rfl, k_3⟩
    replace hS := hS.to k_3
    replace hm := hm.to k_3
    replace hb := hb.to k_3
    replace hg := hg.to k_3
    replace k := k.trans k_3
    clear k_3
    repeat (first | refine r_assign (by conv => (lhs; whnf)) ?_ | refine r_nil ?_ | refine q_then ?_ | refine wp_ret ?_ | refine r_pick_true rfl (by conv => (lhs; whnf)) ?_)
    refine end_tmp rfl (by conv => (lhs; whnf)) ⟨congrArg Value.bool (tst_congr ?_), k⟩
    rw [Int.natAbs_natCast]
    exact ⟨fun h => ⟨h1, h⟩, fun h => h.2⟩
  · repeat (first | refine r_assign (by conv => (lhs; whnf)) ?_ | refine r_nil ?_ | refine q_then ?_ | refine wp_ret ?_ | refine r_guard_skip rfl rfl rfl ?_ | refine r_pick_false rfl (by conv => (lhs; whnf)) ?_)
    refine end_tmp rfl (by conv => (lhs; whnf)) ⟨?_, k⟩
    rw [tst_false fun h => h1 h.1]
theorem zwhole_c {S : Nat → Prop} {w : World} {v : Value} {z : Int} (hS : Up S w) (h : ZV S w v z) :
    Gives Tryz.prog 119 [v] w fun v' w' => Ext w w' ∧ QV S w' v' (z : Rat) := by
  obtain ⟨m, rfl, hm⟩ := h
  refine gives_of Tryz.func119 rfl rfl rfl ?_
  have k : Ext w w := .refl
  repeat (first | refine wp_seq_region ?_ | refine wp_region ?_)
  refine r_box (cs := [.bool (tst (z < 0)), m]) (by conv => (lhs; whnf)) rfl ?_
  intro w_1 gz k_1 hgz hs_1
  have hsgz : w.heap.size ≤ gz := Nat.le_trans k.size hs_1
  clear hs_1
  replace hS := hS.to k_1
  replace hm := hm.to k_1
  replace k := k.trans k_1
  clear k_1
  skip
  refine r_alloc (cs := [.bool false, .slice none 0 0, .bool false, .slice none 0 0]) rfl ?_
  intro w_2 g k_2 hg hs_2
  have hsg : w.heap.size ≤ g := Nat.le_trans k.size hs_2
  have ne_gz_g : gz ≠ g := fun e => by have := hgz.lt; omega
  clear hs_2
  replace hS := hS.to k_2
  replace hm := hm.to k_2
  replace hgz := hgz.to k_2
  replace k := k.trans k_2
  clear k_2
  repeat (first | refine wp_seq_region ?_ | refine r_nil ?_)
  refine wp_drawn 2 (by kernel_rfl) (by kernel_rfl) ?_
  apply ob_step
  · intro x w1 k1 hd
    refine r_load_all rfl (hgz.to k1) rfl ?_
    refine r_nil ?_
    exact ob_eq
  refine ob_step (e := zE S 1) ?_ ?_
  · intro x w1 k1 hd
    refine r_call (zof_c (z := 1) (hS.to k1) (by decide) (by decide)) rfl ?_
    rintro v2 w2 ⟨k2, h2⟩
    exact r_nil (ob_of k2 h2)
  refine ob_nil (ob_end ?_)
  intro x w7 k7 hall
  obtain ⟨m1, hx, h1⟩ : ZV S w7 (x 1) 1 := hall.1
  replace hS := hS.to k7
  replace hm := hm.to k7
  replace hgz := hgz.to k7
  replace hg := hg.to k7
  replace k := k.trans k7
  clear k7
  refine r_build22 (by conv => (lhs; whnf)) hx ?_
  refine r_store4 rfl (by conv => (lhs; whnf)) hg rfl rfl hm.one rfl h1.one ?_
  intro w_4 k_4 h_4
  replace hS := hS.to k_4
  replace hm := hm.wrT k_4 hg (by decide)
  replace hgz := hgz.wr k_4 (by omega)
  replace h1 := h1.wrT k_4 hg (by decide)
  replace k : Ext w w_4 := k.past k_4 hsg
  replace hg := h_4
  clear h_4 k_4
  repeat (first | refine r_nil ?_ | refine q_then ?_ | refine wp_ret ?_)
  exact end1 rfl (resV_agg (by conv => (lhs; whnf)) hg rfl) ⟨k, m, m1, rfl, hm, h1⟩
end Go.Proofs.YtpmnjjmngogkkaaGreatDoor
end

section
/- Rules for strings: a byte of one, parts of one. It holds for every program. -/
set_option linter.unusedVariables false
set_option linter.unusedSimpArgs false
namespace Go.Proofs.YtpmnjjmngogkkaaGreatDoor
open Go Go.RowKit

section rules
variable {P : Program} {n : Nat} {Q : Post} {ρ : Fr} {w : World} {all rest : List Oper} {d : Tmp} {ty : TypeId} {pos : String} {aft : Array Edge}
theorem size_str (l : List UInt8) : (⟨l.toArray⟩ : ByteArray).size = l.length := by show l.toArray.size = _; simp
theorem get_str (l : List UInt8) (i : Nat) : (⟨l.toArray⟩ : ByteArray)[i]? = l[i]? := by
  by_cases h : i < l.length
  · have h2 : i < (⟨l.toArray⟩ : ByteArray).size := by rw [size_str]; exact h
    rw [getElem?_pos _ i h2, List.getElem?_eq_getElem h]
    rfl
  · rw [getElem?_neg _ i (by rw [size_str]; exact h), List.getElem?_eq_none (by omega)]
theorem extract_str (l : List UInt8) (a b : Nat) (hb : b ≤ l.length) : (⟨l.toArray⟩ : ByteArray).extract a b = ⟨((l.take b).drop a).toArray⟩ := by
  apply ByteArray.ext
  rw [ByteArray.data_extract]
  simp [List.drop_take]
/-- s[i] -/
theorem r_indexS {t : TypeId} [st : StrT P t] {x ix : Operand} {l : List UInt8} {k : IntKind} {I : Int} {c : UInt8} (i : Nat) (hx : ev ρ x = strV l) (hi : ev ρ ix = .int k I) (hI : I = (i : Int)) (hc : l[i]? = some c)
    (h : WpR P n all Q rest (upd ρ d (.int .u8 (c.toNat : Nat))) w) : WpR P n all Q (⟨some d, .index t x ix, ty, pos, aft, none⟩ :: rest) ρ w := by
  subst hI
  refine r_val rfl rfl ?_ h
  have h1 : (⟨l.toArray⟩ : ByteArray)[i]? = some c := by rw [get_str]; exact hc
  simp [execOp, hx, hi, Instr.index, asIntOf, run_underlying st.und, h1]
/-- s[k:] -/
theorem r_sliceS_low {t : TypeId} [st : StrT P t] {x lo : Operand} {l : List UInt8} {k : IntKind} {I : Int} (i : Nat) (hx : ev ρ x = strV l) (hi : ev ρ lo = .int k I) (hI : I = (i : Int)) (hl : i ≤ l.length)
    (h : WpR P n all Q rest (upd ρ d (strV (l.drop i))) w) : WpR P n all Q (⟨some d, .slice t x (some lo) none none, ty, pos, aft, none⟩ :: rest) ρ w := by
  subst hI
  refine r_val rfl rfl ?_ h
  have h1 := size_str l
  have h2 := extract_str l i l.length (Nat.le_refl _)
  rw [List.take_of_length_le (Nat.le_refl _)] at h2
  simp [execOp, hx, hi, Instr.sliceAt, Instr.slice, Instr.sliceBounds, Instr.sliceBound, asIntOf, run_underlying st.und, h1, hl, h2]
/-- s[:k] -/
theorem r_sliceS_high {t : TypeId} [st : StrT P t] {x hi : Operand} {l : List UInt8} {k : IntKind} {I : Int} (i : Nat) (hx : ev ρ x = strV l) (hi' : ev ρ hi = .int k I) (hI : I = (i : Int)) (hl : i ≤ l.length)
    (h : WpR P n all Q rest (upd ρ d (strV (l.take i))) w) : WpR P n all Q (⟨some d, .slice t x none (some hi) none, ty, pos, aft, none⟩ :: rest) ρ w := by
  subst hI
  refine r_val rfl rfl ?_ h
  have h1 := size_str l
  have h2 := extract_str l 0 i hl
  rw [List.drop_zero] at h2
  simp [execOp, hx, hi', Instr.sliceAt, Instr.slice, Instr.sliceBounds, Instr.sliceBound, asIntOf, run_underlying st.und, h1, hl, h2]
end rules
end Go.Proofs.YtpmnjjmngogkkaaGreatDoor
end

section
/- The reference reads integers. -/
set_option linter.unusedVariables false
set_option linter.unusedSimpArgs false
namespace Go.Proofs.YtpmnjjmngogkkaaGreatDoor
open Go Go.RowKit

/-- What a reading gives: the integer and true, or nothing and false. -/
def Parsed (S : Nat → Prop) (w : World) (v : Value) (s : List UInt8) : Prop :=
  (∃ z vz, s = Lib.itoa z ∧ v = .tuple #[vz, .bool true] ∧ ZV S w vz z) ∨ ((∀ z, s ≠ Lib.itoa z) ∧ v = .tuple #[.agg #[.bool false, .slice none 0 0], .bool false])
/-- D is no numeral behind the sign. -/
def BadD (s : List UInt8) : Prop := Dgs s = [] ∨ ((Dgs s).head? = some 48 ∧ (1 < (Dgs s).length ∨ NegS s))
theorem bad_not {s : List UInt8} (h : BadD s) : ∀ z, s ≠ Lib.itoa z := by
  intro z hz
  obtain ⟨h1, h2⟩ := (num_iff s).1 ⟨z, hz⟩
  rcases h with h | ⟨h, h3⟩
  · exact h1.1 h
  · rcases h3 with h3 | h3
    · have := h1.2.2 h; omega
    · exact h2 h3 h
theorem digit_not {s : List UInt8} {c : UInt8} (hc : c ∈ Dgs s) (h : ¬ Dig c) : ∀ z, s ≠ Lib.itoa z := fun z hz => h (((num_iff s).1 ⟨z, hz⟩).1.2.1 c hc)
theorem good_dec {s : List UInt8} (hb : ¬ BadD s) (hd : ∀ c ∈ Dgs s, Dig c) : DecL (Dgs s) ∧ (NegS s → (Dgs s).head? ≠ some 48) := by
  unfold BadD at hb
  refine ⟨⟨fun h => hb (.inl h), hd, fun h => ?_⟩, fun hn h => hb (.inr ⟨h, .inr hn⟩)⟩
  have h1 : ¬ 1 < (Dgs s).length := fun h1 => hb (.inr ⟨h, .inl h1⟩)
  have h2 : Dgs s ≠ [] := fun h => hb (.inl h)
  have := List.length_pos_iff.2 h2
  omega

set_option maxHeartbeats 2000000 in
theorem zparse_c {S : Nat → Prop} {w : World} {s : List UInt8} (hS : Up S w) (hl : s.length ≤ 140737488351232) :
    Gives Tryz.prog 56 [strV s] w fun v' w' => Ext w w' ∧ Parsed S w' v' s := by
  have hDl := dgs_le s
  refine gives_of Tryz.func56 rfl rfl rfl ?_
  repeat (first | refine wp_seq_region ?_ | refine wp_region ?_)
  refine r_alloc (cs := [.bool false, .slice none 0 0]) rfl ?_
  intro w1 g k1 hg hgs
  repeat (first | refine r_lenS rfl ?_ | refine wp_seq_region ?_ | refine wp_region ?_ | refine r_move (by conv => (lhs; whnf)) ?_ | refine r_assign (by conv => (lhs; whnf)) ?_ | refine r_nil ?_ | refine r_gtr rfl rfl ?_)
  refine r_mid [(12, 16), (4, 4)] (fun ρ w' => ρ 4 = .bool (tst (NegS s)) ∧ w' = w1) ?_ ?_
  · refine r_guard_split rfl rfl ?_ ?_ <;> intro hlt
    · obtain ⟨c, hc⟩ : ∃ c, s[0]? = some c := ⟨s[0], List.getElem?_eq_getElem (by omega)⟩
      repeat (first | refine r_indexS 0 rfl rfl rfl hc ?_ | refine r_move (by conv => (lhs; whnf)) ?_ | refine r_assign (by conv => (lhs; whnf)) ?_ | refine r_nil ?_ | refine q_then ?_ | refine r_guard_run rfl rfl ?_ | refine r_pick_true rfl (by conv => (lhs; whnf)) ?_ | refine r_eql rfl rfl ?_)
      refine ⟨by (repeat (first | refine agree_upd rfl ?_ | exact agree_over | refine agree_sub rfl ?_ | exact agree_refl | refine agree_base rfl ?_ | refine agree_base' rfl ?_)), congrArg Value.bool (tst_congr ?_), rfl⟩
      unfold NegS
      rw [List.head?_eq_getElem?, hc]
      constructor
      · intro h
        congr 1
        apply UInt8.toNat_inj.1
        show c.toNat = 45
        omega
      · intro h
        have := Option.some.inj h
        subst this
        rfl
    · repeat (first | refine r_assign (by conv => (lhs; whnf)) ?_ | refine r_nil ?_ | refine q_then ?_ | refine r_guard_skip rfl rfl rfl ?_ | refine r_pick_false rfl (by conv => (lhs; whnf)) ?_)
      refine ⟨by (repeat (first | refine agree_upd rfl ?_ | exact agree_over | refine agree_sub rfl ?_ | exact agree_refl | refine agree_base rfl ?_ | refine agree_base' rfl ?_)), ?_, rfl⟩
      have h0 : s = [] := List.eq_nil_of_length_eq_zero (by omega)
      rw [tst_false (show ¬ NegS s by rw [h0]; unfold NegS; simp)]
      rfl
  rintro u1 w2 ⟨h4, rfl⟩
  refine wp_learn 4 h4 ?_
  clear h4
  repeat (first | refine wp_seq_region ?_ | refine wp_seq_seq ?_ | refine wp_region ?_ | refine r_move (by conv => (lhs; whnf)) ?_ | refine r_nil ?_ | refine q_then ?_)
  first | refine wp_seq_cond ?_ | refine wp_thenB ?_ | refine wp_thenBB ?_ | skip
  refine wp_join ((0, 0) :: [(0, 0), (18, 19)]) (fun ρ w' => w' = w2 ∧ ρ 0 = strV (Dgs s)) rfl ?_ ?_ ?_
  · intro hn
    have hne : 1 ≤ s.length := by rw [dgs_neg hn]; simp
    repeat (first | refine r_sliceS_low 1 rfl rfl rfl hne ?_ | refine wp_region ?_ | refine r_move (by conv => (lhs; whnf)) ?_ | refine r_assign (by conv => (lhs; whnf)) ?_ | refine r_nil ?_ | refine q_then ?_)
    refine ⟨by (repeat (first | refine agree_upd rfl ?_ | exact agree_over | refine agree_sub rfl ?_ | exact agree_refl | refine agree_base rfl ?_ | refine agree_base' rfl ?_)), rfl, ?_⟩
    unfold Dgs
    rw [if_pos hn]
    rfl
  · intro hn
    repeat (first | refine q_then ?_ | refine wp_skip ?_)
    refine ⟨by (repeat (first | refine agree_upd rfl ?_ | exact agree_over | refine agree_sub rfl ?_ | exact agree_refl | refine agree_base rfl ?_ | refine agree_base' rfl ?_)), rfl, ?_⟩
    rw [dgs_pos hn]
    rfl
  rintro u2 w3 ⟨rfl, h0⟩
  refine wp_learn 0 h0 ?_
  clear h0
  have hbd : BadD s ↔ (Dgs s = [] ∨ ((Dgs s).head? = some 48 ∧ (1 < (Dgs s).length ∨ NegS s))) := Iff.rfl
  obtain ⟨D, hD⟩ : ∃ D, D = Dgs s := ⟨_, rfl⟩
  rw [← hD] at hbd hDl ⊢
  repeat (first | refine wp_seq_region ?_ | refine wp_seq_seq ?_ | refine wp_region ?_ | refine r_move (by conv => (lhs; whnf)) ?_)
  refine r_eqlS (b := []) rfl rfl ?_
  repeat (first | refine r_move (by conv => (lhs; whnf)) ?_)
  refine r_mid [(22, 34)] (fun ρ w' => ρ 34 = .bool (tst (BadD s)) ∧ w' = w3) ?_ ?_
  · refine r_guard_split rfl rfl ?_ ?_ <;> intro hnil
    · repeat (first | refine r_nil ?_ | refine q_then ?_ | refine r_guard_skip rfl rfl rfl ?_ | refine r_guard_undef rfl rfl ?_ | refine r_pick_true rfl (by conv => (lhs; whnf)) ?_)
      exact ⟨by (repeat (first | refine agree_upd rfl ?_ | exact agree_over | refine agree_sub rfl ?_ | exact agree_refl | refine agree_base rfl ?_ | refine agree_base' rfl ?_)), by rw [tst_true (hbd.2 (Or.inl hnil))]; rfl, rfl⟩
    · obtain ⟨c, hc⟩ : ∃ c, D[0]? = some c := ⟨D[0]'(List.length_pos_iff.2 hnil), List.getElem?_eq_getElem _⟩
      have hc48 : (c.toNat : Int) = 48 ↔ D.head? = some 48 := by
        rw [List.head?_eq_getElem?, hc]
        constructor
        · intro h
          congr 1
          apply UInt8.toNat_inj.1
          show c.toNat = 48
          omega
        · intro h
          have := Option.some.inj h
          subst this
          rfl
      repeat (first | refine r_indexS 0 rfl rfl rfl hc ?_ | refine r_move (by conv => (lhs; whnf)) ?_ | refine r_guard_run rfl rfl ?_ | refine r_eql rfl rfl ?_)
      refine r_guard_split rfl rfl ?_ ?_ <;> intro h48
      · repeat (first | refine r_lenS rfl ?_ | refine r_move (by conv => (lhs; whnf)) ?_ | refine r_guard_run rfl rfl ?_ | refine r_gtr rfl rfl ?_)
        refine r_guard_split rfl rfl ?_ ?_ <;> intro h1
        · repeat (first | refine r_nil ?_ | refine q_then ?_ | refine r_guard_run rfl rfl ?_ | refine r_guard_skip rfl rfl rfl ?_ | refine r_pick_true rfl (by conv => (lhs; whnf)) ?_ | refine r_pick_false rfl (by conv => (lhs; whnf)) ?_)
          exact ⟨by (repeat (first | refine agree_upd rfl ?_ | exact agree_over | refine agree_sub rfl ?_ | exact agree_refl | refine agree_base rfl ?_ | refine agree_base' rfl ?_)), by rw [tst_true (hbd.2 (Or.inr ⟨hc48.1 h48, Or.inl (by omega)⟩))]; rfl, rfl⟩
        · repeat (first | refine r_move (by conv => (lhs; whnf)) ?_ | refine r_nil ?_ | refine q_then ?_ | refine r_guard_run rfl rfl ?_ | refine r_pick_true rfl (by conv => (lhs; whnf)) ?_ | refine r_pick_false rfl (by conv => (lhs; whnf)) ?_)
          refine ⟨by (repeat (first | refine agree_upd rfl ?_ | exact agree_over | refine agree_sub rfl ?_ | exact agree_refl | refine agree_base rfl ?_ | refine agree_base' rfl ?_)), congrArg Value.bool (tst_congr ?_), rfl⟩
          rw [hbd]
          exact ⟨fun h => Or.inr ⟨hc48.1 h48, Or.inr h⟩, fun h => h.elim (fun h => absurd h hnil) fun h => h.2.elim (fun h => absurd (by omega) h1) id⟩
      · repeat (first | refine r_nil ?_ | refine q_then ?_ | refine r_guard_run rfl rfl ?_ | refine r_guard_skip rfl rfl rfl ?_ | refine r_guard_undef rfl rfl ?_ | refine r_pick_false rfl (by conv => (lhs; whnf)) ?_)
        refine ⟨by (repeat (first | refine agree_upd rfl ?_ | exact agree_over | refine agree_sub rfl ?_ | exact agree_refl | refine agree_base rfl ?_ | refine agree_base' rfl ?_)), ?_, rfl⟩
        rw [tst_false fun h => (hbd.1 h).elim hnil fun h => h48 (hc48.2 h.1)]
        rfl
  rintro u3 w4 ⟨h34, rfl⟩
  refine wp_learn 34 h34 ?_
  clear h34
  skip
  try refine wp_seq_cond ?_
  refine wp_cond_dec rfl ?_ ?_ <;> intro hbad
  · repeat (first | refine wp_seq_region ?_ | refine wp_region ?_)
    refine r_build0 (cs := [.bool false, .slice none 0 0]) rfl ?_
    refine r_store2 rfl (by conv => (lhs; whnf)) hg rfl rfl ?_
    intro w5 k5 hg5
    repeat (first | refine r_assign (by conv => (lhs; whnf)) ?_ | refine r_nil ?_ | refine q_then ?_ | refine wp_ret ?_ | refine q_then_ret ?_)
    exact end2 rfl (resV_agg (by conv => (lhs; whnf)) hg5 rfl) (resV_tmp (by conv => (lhs; whnf))) ⟨k1.past k5 hgs, .inr ⟨bad_not hbad, rfl⟩⟩
  · repeat (first | refine r_lenS rfl ?_ | refine wp_seq_region ?_ | refine wp_seq_seq ?_ | refine wp_region ?_ | refine r_move (by conv => (lhs; whnf)) ?_ | refine r_assign (by conv => (lhs; whnf)) ?_ | refine r_nil ?_ | refine q_then ?_ | refine wp_skip ?_ | refine r_subI rfl rfl (by omega) (by omega) ?_)
    try refine wp_seq_block ?_
    refine wp_for [(3, 3), (5, 8), (39, 70)] (fun k ρ w' => ∃ (L : List Nat) (v : Value) (limb e : Nat), k ≤ D.length ∧ ρ 8 = .int .i64 ((k : Int) - 1) ∧ ρ 5 = v ∧ ρ 6 = .int .i64 (limb : Int) ∧ ρ 7 = .int .i64 ((10 ^ e : Nat) : Int) ∧ e < 9 ∧ limb < 10 ^ e ∧ k + 9 * L.length + e = D.length ∧
        (∀ c ∈ D.drop k, Dig c) ∧ digV (D.drop k) = nval L + 1000000000 ^ L.length * limb ∧ Digs L ∧ Ext w4 w' ∧ Own w4.heap.size 3 1 w' v L.length (L.map fun d : Nat => .int .i64 d)) D.length
      ⟨[], _, 0, 0, Nat.le_refl _, rfl, rfl, rfl, rfl, by omega, by simp, by simp, by rw [List.drop_of_length_le (Nat.le_refl _)]; simp, by rw [List.drop_of_length_le (Nat.le_refl _)]; simp [digV, nval], digs_nil, .refl, own_nil⟩ ?_
    rintro k u4 w5 ⟨L, v, limb, e, hkD, h8, h5, h6, h7, he9, hlimb, hcnt, hdg, hval, hLd, k5, ho⟩
    refine wp_learn 8 h8 (wp_learn 5 h5 (wp_learn 6 h6 (wp_learn 7 h7 ?_)))
    clear h8 h5 h6 h7
    have hg5 := hg.to k5
    have hp9 : 10 ^ e ≤ 10 ^ 8 := Nat.pow_le_pow_right (by omega) (by omega)
    repeat (first | refine wp_seq_region ?_ | refine wp_seq_seq ?_ | refine wp_region ?_ | refine r_move (by conv => (lhs; whnf)) ?_ | refine r_nil ?_ | refine q_then ?_ | refine r_geq rfl rfl ?_)
    try refine wp_seq_cond ?_
    refine wp_cond_dec rfl ?_ ?_ <;> intro hk
    · obtain ⟨m, rfl⟩ : ∃ m, k = m + 1 := ⟨k - 1, by omega⟩
      obtain ⟨c, hc⟩ : ∃ c, D[m]? = some c := ⟨D[m], List.getElem?_eq_getElem (by omega)⟩
      have hcm : c ∈ D := List.mem_of_getElem? hc
      have hdrop : D.drop m = c :: D.drop (m + 1) := by
        rw [List.drop_eq_getElem_cons (by omega)]
        rw [List.getElem?_eq_getElem (by omega)] at hc
        rw [Option.some.inj hc]
      have hc256 := c.toNat_lt
      repeat (first | refine r_indexS m rfl rfl (by omega) hc ?_ | refine wp_seq_region ?_ | refine wp_seq_seq ?_ | refine wp_seq_bseq ?_ | refine wp_region ?_ | refine r_move (by conv => (lhs; whnf)) ?_ | refine wp_block_seq ?_ | refine wp_skip ?_ | refine r_lss rfl rfl ?_)
      refine r_mid [(47, 52)] (fun ρ w' => ρ 52 = .bool (tst (¬ Dig c)) ∧ w' = w5) ?_ ?_
      · refine r_guard_split rfl rfl ?_ ?_ <;> intro hlo
        · repeat (first | refine r_nil ?_ | refine q_then ?_ | refine r_guard_skip rfl rfl rfl ?_ | refine r_pick_true rfl (by conv => (lhs; whnf)) ?_)
          exact ⟨by (repeat (first | refine agree_upd rfl ?_ | exact agree_over | refine agree_sub rfl ?_ | exact agree_refl | refine agree_base rfl ?_ | refine agree_base' rfl ?_)), by rw [tst_true (show ¬ Dig c from fun h => by unfold Dig at h; omega)]; rfl, rfl⟩
        · repeat (first | refine r_indexS m rfl rfl (by omega) hc ?_ | refine r_move (by conv => (lhs; whnf)) ?_ | refine r_nil ?_ | refine q_then ?_ | refine r_guard_run rfl rfl ?_ | refine r_pick_false rfl (by conv => (lhs; whnf)) ?_ | refine r_gtr rfl rfl ?_)
          refine ⟨by (repeat (first | refine agree_upd rfl ?_ | exact agree_over | refine agree_sub rfl ?_ | exact agree_refl | refine agree_base rfl ?_ | refine agree_base' rfl ?_)), congrArg Value.bool (tst_congr ?_), rfl⟩
          unfold Dig
          omega
      rintro u5 w6 ⟨h52, rfl⟩
      refine wp_learn 52 h52 ?_
      clear h52
      skip
      try refine wp_seq_cond ?_
      refine wp_cond_dec rfl ?_ ?_ <;> intro hnd
      · repeat (first | refine wp_seq_region ?_ | refine wp_region ?_)
        refine r_build0 (cs := [.bool false, .slice none 0 0]) rfl ?_
        refine r_store2 rfl (by conv => (lhs; whnf)) hg5 rfl rfl ?_
        intro w7 k7 hg7
        repeat (first | refine r_assign (by conv => (lhs; whnf)) ?_ | refine r_nil ?_ | refine q_then ?_ | refine wp_ret ?_ | refine q_then_ret ?_ | refine q_block_ret ?_)
        exact end2 rfl (resV_agg (by conv => (lhs; whnf)) hg7 rfl) (resV_tmp (by conv => (lhs; whnf))) ⟨(k1.trans k5).past k7 hgs, .inr ⟨digit_not (hD ▸ hcm) hnd, rfl⟩⟩
      · have hdc : Dig c := Classical.not_not.1 hnd
        have hdc2 : 48 ≤ c.toNat ∧ c.toNat ≤ 57 := hdc
        have hpe : 10 ^ (e + 1) = 10 * 10 ^ e := by rw [Nat.pow_succ, Nat.mul_comm]
        obtain ⟨d, hd⟩ : ∃ d, d = c.toNat - 48 := ⟨_, rfl⟩
        have hmul : 10 ^ e * d ≤ 10 ^ e * 9 := Nat.mul_le_mul_left _ (by omega)
        have hmi : (((10 ^ e : Nat) : Int)) * ((c.toNat : Int) - 48) = ((10 ^ e * d : Nat) : Int) := by
          rw [show (c.toNat : Int) - 48 = (d : Int) by omega]
          exact (Int.natCast_mul ..).symm
        have hnew : digV (D.drop m) = nval L + 1000000000 ^ L.length * (limb + 10 ^ e * d) := by
          rw [hdrop, show c :: D.drop (m + 1) = [c] ++ D.drop (m + 1) from rfl, digV_append, hval, List.length_drop]
          have h1 : digV [c] = d := by rw [hd]; show 10 * 0 + (c.toNat - 48) = _; omega
          have h2 : 10 ^ (D.length - (m + 1)) = 1000000000 ^ L.length * 10 ^ e := by
            rw [show D.length - (m + 1) = 9 * L.length + e by omega, Nat.pow_add, Nat.pow_mul]
          rw [h1, h2, Nat.mul_add, Nat.mul_left_comm, Nat.mul_comm d]
          omega
        have hp8 : e = 8 → 10 ^ e = 100000000 := fun h => by rw [h]
        have hp7 : e ≠ 8 → 10 ^ e ≤ 10000000 := fun h => Nat.pow_le_pow_right (n := 10) (by omega) (by omega : e ≤ 7)
        generalize 10 ^ e = p at *
        have hlimb2 : limb + p * d < 10 * p := by omega
        repeat (first | refine r_indexS m rfl rfl (by omega) hc ?_ | refine r_subB rfl rfl (by omega) (by omega) ?_ | refine r_mulI rfl rfl (by rw [hmi]; omega) (by rw [hmi]; omega) ?_ | refine r_addI rfl rfl (by rw [hmi]; omega) (by rw [hmi]; omega) ?_ | refine r_mulI rfl rfl (by omega) (by omega) ?_ | refine wp_seq_region ?_ | refine wp_region ?_ | refine r_move (by conv => (lhs; whnf)) ?_ | refine r_assign (by conv => (lhs; whnf)) ?_ | refine r_nil ?_ | refine q_then ?_ | refine wp_skip ?_ | refine r_eql rfl rfl ?_ | refine r_conv rfl (wrap_i64 (by omega) (by omega)) ?_)
        rw [hmi]
        have hsum : (limb : Int) + ((p * d : Nat) : Int) = ((limb + p * d : Nat) : Int) := (Int.natCast_add ..).symm
        rw [hsum]
        generalize limb + p * d = x at *
        try refine wp_seq_cond ?_
        refine wp_cond_dec rfl ?_ ?_ <;> intro h9
        · have he8 : e = 8 := by
            rcases Nat.lt_or_ge e 8 with h | h
            · have := hp7 (by omega); omega
            · omega
          have hpv := hp8 he8
          repeat (first | refine wp_seq_region ?_ | refine wp_region ?_ | refine r_move (by conv => (lhs; whnf)) ?_)
          refine r_lit1 (by conv => (lhs; whnf)) rfl ?_
          intro w7 g7 k7 hg7 hgs7
          refine r_append1 (by conv => (lhs; whnf)) (own_to ho k7) rfl hg7 (by omega) rfl (by simp [Value.oneCell']) (by unfold maxLen; omega) (by omega) (by have := k5.size; have := k7.size; omega) ?_
          intro v8 w8 ho8 k8
          have hlen : (L ++ [x]).length = L.length + 1 := by rw [List.length_append]; rfl
          repeat (first | refine wp_region ?_ | refine r_move (by conv => (lhs; whnf)) ?_ | refine r_assign (by conv => (lhs; whnf)) ?_ | refine r_nil ?_ | refine q_then ?_ | refine r_subI rfl rfl (by omega) (by omega) ?_)
          refine ⟨by (repeat (first | refine agree_upd rfl ?_ | exact agree_over | refine agree_sub rfl ?_ | exact agree_refl | refine agree_base rfl ?_ | refine agree_base' rfl ?_)), m, by omega, L ++ [x], v8, 0, 0, by omega, congrArg (Value.int .i64) (by omega), rfl, rfl, rfl, by omega, by omega, by rw [hlen]; omega, ?_, ?_, hLd.append (Digs.cons (by omega) digs_nil), ?_, by simpa using ho8⟩
          · rw [hdrop]
            intro y hy
            rcases List.mem_cons.1 hy with rfl | hy
            · exact hdc
            · exact hdg y hy
          · rw [hnew, hlen, nval_snoc, Nat.mul_zero, Nat.add_zero]
          · exact Keeps.later (k5.trans k7) k8 fun i hi _ e => by have := (ho.lt i e.symm).1; omega
        · have he8 : e ≠ 8 := fun h => h9 (by have := hp8 h; omega)
          repeat (first | refine wp_region ?_ | refine r_move (by conv => (lhs; whnf)) ?_ | refine r_assign (by conv => (lhs; whnf)) ?_ | refine r_nil ?_ | refine q_then ?_ | refine wp_skip ?_ | refine r_subI rfl rfl (by omega) (by omega) ?_)
          refine ⟨by (repeat (first | refine agree_upd rfl ?_ | exact agree_over | refine agree_sub rfl ?_ | exact agree_refl | refine agree_base rfl ?_ | refine agree_base' rfl ?_)), m, by omega, L, v, x, e + 1, by omega, congrArg (Value.int .i64) (by omega), rfl, rfl, ?_, by omega, by rw [hpe]; omega, by omega, ?_, hnew, hLd, k5, ho⟩
          · rw [hpe]; exact congrArg (Value.int .i64) (by omega)
          · rw [hdrop]
            intro y hy
            rcases List.mem_cons.1 hy with rfl | hy
            · exact hdc
            · exact hdg y hy
    · obtain rfl : k = 0 := by omega
      rw [List.drop_zero] at hdg hval
      have hS5 : Up S w5 := hS.to (k1.trans k5)
      have hlimb9 : limb < 1000000000 := by omega
      repeat (first | refine wp_seq_region ?_ | refine wp_seq_seq ?_ | refine wp_region ?_ | refine r_move (by conv => (lhs; whnf)) ?_ | refine r_nil ?_ | refine q_then ?_ | refine wp_exit ?_ | refine r_gtr rfl rfl ?_)
      first | refine wp_seq_cond ?_ | refine wp_thenB ?_ | refine wp_thenBB ?_ | skip
      refine wp_join [(5, 5), (73, 76)] (fun ρ w' => ∃ (L' : List Nat) (v' : Value), ρ 5 = v' ∧ Digs L' ∧ nval L' = digV D ∧ Ext w4 w' ∧ Own w4.heap.size 3 1 w' v' L'.length (L'.map fun d : Nat => .int .i64 d)) rfl ?_ ?_ ?_
      · intro hpos
        repeat (first | refine wp_region ?_ | refine r_move (by conv => (lhs; whnf)) ?_)
        refine r_lit1 (by conv => (lhs; whnf)) rfl ?_
        intro w7 g7 k7 hg7 hgs7
        refine r_append1 (by conv => (lhs; whnf)) (own_to ho k7) rfl hg7 (by omega) rfl (by simp [Value.oneCell']) (by unfold maxLen; omega) (by omega) (by have := k5.size; have := k7.size; omega) ?_
        intro v8 w8 ho8 k8
        have hlen : (L ++ [limb]).length = L.length + 1 := by rw [List.length_append]; rfl
        repeat (first | refine r_assign (by conv => (lhs; whnf)) ?_ | refine r_nil ?_ | refine q_then ?_)
        refine ⟨by (repeat (first | refine agree_upd rfl ?_ | exact agree_over | refine agree_sub rfl ?_ | exact agree_refl | refine agree_base rfl ?_ | refine agree_base' rfl ?_)), L ++ [limb], v8, rfl, hLd.append (Digs.cons (by omega) digs_nil), by rw [nval_snoc, hval], ?_, by rw [hlen]; simpa using ho8⟩
        exact Keeps.later (k5.trans k7) k8 fun i hi _ e => by have := (ho.lt i e.symm).1; omega
      · intro hpos
        repeat (first | refine q_then ?_ | refine wp_skip ?_)
        refine ⟨by (repeat (first | refine agree_upd rfl ?_ | exact agree_over | refine agree_sub rfl ?_ | exact agree_refl | refine agree_base rfl ?_ | refine agree_base' rfl ?_)), L, v, rfl, hLd, ?_, k5, ho⟩
        have : limb = 0 := by omega
        rw [hval, this, Nat.mul_zero, Nat.add_zero]
      rintro u6 w6 ⟨L', v', h5, hLd', hval', k6, ho'⟩
      refine wp_learn 5 h5 ?_
      clear h5 ho
      repeat (first | refine wp_seq_region ?_ | refine wp_region ?_ | refine r_move (by conv => (lhs; whnf)) ?_)
      refine r_call (rtrim_c (S := S) (v := v') (l := L') (Row.of_own ho' (hS.to k1)) hLd') rfl ?_
      rintro v7 w7 ⟨rfl, h7⟩
      rw [hval', hD] at h7
      refine r_call (zInt_c (p := NegS s) (n := digV (Dgs s)) (numV s) h7 ?_ ?_) rfl ?_
      · unfold numV; split <;> omega
      · unfold numV
        split
        · rename_i h; exact ⟨fun h2 => ⟨h, by omega⟩, fun h2 => by omega⟩
        · rename_i h; exact ⟨fun h2 => by omega, fun h2 => absurd h2.1 h⟩
      rintro v8 w8 ⟨k8, m8, rfl, h8⟩
      have hg8 := (hg.to k6).to k8
      skip
      refine r_store2 rfl (by conv => (lhs; whnf)) hg8 rfl h8.one ?_
      intro w9 k9 hg9
      repeat (first | refine r_assign (by conv => (lhs; whnf)) ?_ | refine r_nil ?_ | refine q_then ?_ | refine wp_ret ?_)
      have hgood := good_dec hbad (hD ▸ hdg)
      exact end2 rfl (resV_agg (by conv => (lhs; whnf)) hg9 rfl) (resV_tmp (by conv => (lhs; whnf))) ⟨((k1.trans k6).trans k8).past k9 hgs, .inl ⟨_, _, num_val hgood.1 hgood.2, rfl, m8, rfl, h8.wrT k9 hg8 (by decide)⟩⟩
end Go.Proofs.YtpmnjjmngogkkaaGreatDoor
end

section
/- The reference reads fractions. -/
set_option linter.unusedVariables false
set_option linter.unusedSimpArgs false
namespace Go.Proofs.YtpmnjjmngogkkaaGreatDoor
open Go Go.RowKit

/-- A reading, as a variable keeps it. -/
def PC (S : Nat → Prop) (w : World) (b m : Value) (vb : Bool) (s : List UInt8) : Prop :=
  b.oneCell' = true ∧ m.oneCell' = true ∧ ((vb = true ∧ ∃ n, s = Lib.itoa n ∧ ZV S w (.agg #[b, m]) n) ∨ (vb = false ∧ ∀ z, s ≠ Lib.itoa z))
theorem PC.to {S : Nat → Prop} {w w' : World} {b m : Value} {vb : Bool} {s : List UInt8} (h : PC S w b m vb s) (k : Ext w w') : PC S w' b m vb s :=
  ⟨h.1, h.2.1, h.2.2.imp (fun ⟨e, n, h1, h2⟩ => ⟨e, n, h1, h2.to k⟩) id⟩
theorem Parsed.pc {S : Nat → Prop} {w : World} {v : Value} {s : List UInt8} (h : Parsed S w v s) : ∃ b m vb, v = .tuple #[.agg #[b, m], .bool vb] ∧ PC S w b m vb s := by
  rcases h with ⟨z, vz, hz, rfl, m, rfl, hm⟩ | ⟨hz, rfl⟩
  · exact ⟨_, _, _, rfl, rfl, hm.one, .inl ⟨rfl, z, hz, m, rfl, hm⟩⟩
  · exact ⟨_, _, _, rfl, rfl, rfl, .inr ⟨rfl, hz⟩⟩
/-- What a reading gives: the fraction and true, or nothing and false. -/
def ReadR (S : Nat → Prop) (w : World) (v : Value) (s : List UInt8) : Prop :=
  (∃ q vq, s = rstr q ∧ v = .tuple #[vq, .bool true] ∧ QV S w vq q) ∨ ((∀ q, s ≠ rstr q) ∧ v = .tuple #[.agg #[.bool false, .slice none 0 0, .bool false, .slice none 0 0], .bool false])
theorem cut_bad {a b : List UInt8} (ha : (47 : UInt8) ∉ a) (h : (∀ z, a ≠ Lib.itoa z) ∨ (∀ z, b ≠ Lib.itoa z)) : ∀ q, a ++ 47 :: b ≠ rstr q := fun q hq => by
  obtain ⟨_, h1, h2⟩ := (rstr_cut ha q).1 hq
  rcases h with h | h
  · exact h _ h1
  · exact h (q.den : Int) (by rw [h2, itoa_nat])
theorem cut_good {a b : List UInt8} (ha : (47 : UInt8) ∉ a) {n d : Int} (hn : a = Lib.itoa n) (hd : b = Lib.itoa d) (h0 : 0 < d) (h1 : d ≠ 1) (hg : Int.gcd n d = 1) : ∃ q : Rat, q.num = n ∧ (q.den : Int) = d ∧ a ++ 47 :: b = rstr q := by
  obtain ⟨q, h2, h3⟩ := rat_of n (d := d.natAbs) (by omega) hg
  have h4 : (q.den : Int) = d := by omega
  exact ⟨q, h2, h4, (rstr_cut ha q).2 ⟨by omega, by rw [hn, h2], by rw [hd, ← h4, itoa_nat]⟩⟩
theorem cut_bad2 {a b : List UInt8} (ha : (47 : UInt8) ∉ a) {n d : Int} (hn : a = Lib.itoa n) (hd : b = Lib.itoa d) (h : d ≤ 0 ∨ d = 1 ∨ Int.gcd n d ≠ 1) : ∀ q, a ++ 47 :: b ≠ rstr q := fun q hq => by
  obtain ⟨h1, h2, h3⟩ := (rstr_cut ha q).1 hq
  rw [hn] at h2
  rw [hd, ← itoa_nat] at h3
  have h4 := itoa_inj h2
  have h5 := itoa_inj h3
  subst h4
  have h6 := q.den_pos
  have h7 := rat_gcd q
  rcases h with h | h | h
  · omega
  · omega
  · rw [h5] at h
    exact h h7
theorem gcd_zl {a b : Int} (hb : b ≠ 0) {k : Nat} (h : zl b ≤ k) : zl (Int.gcd a b : Int) ≤ k := by
  unfold zl at *
  rw [Int.natAbs_natCast]
  exact Nat.le_trans (dl_mono (Nat.gcd_le_right _ (by omega))) h
theorem zl_itoa {z : Int} {s : List UInt8} (h : s = Lib.itoa z) {k : Nat} (hl : s.length ≤ 9 * k) : zl z ≤ k := dl_digits (Nat.le_trans (abs_digits z) (h ▸ hl))
theorem zl_one : zl 1 ≤ 1 := dl_le (k := 1) (by decide)

set_option maxHeartbeats 2000000 in
theorem zread_c {S : Nat → Prop} {w : World} {s : List UInt8} (hS : Up S w) (hl : s.length ≤ 140737488351232) :
    Gives Tryz.prog 62 [strV s] w fun v' w' => Ext w w' ∧ ReadR S w' v' s := by
  refine gives_of Tryz.func62 rfl rfl rfl ?_
  have k : Ext w w := .refl
  repeat (first | refine wp_seq_region ?_ | refine wp_region ?_)
  refine r_alloc (cs := [.bool false, .slice none 0 0, .bool false, .slice none 0 0]) rfl ?_
  intro w_1 g k_1 hg hs_1
  have hsg : w.heap.size ≤ g := Nat.le_trans k.size hs_1
  clear hs_1
  replace hS := hS.to k_1
  replace k := k.trans k_1
  clear k_1
  repeat (first | refine wp_seq_region ?_ | refine wp_seq_seq ?_ | refine wp_region ?_ | refine r_assign (by conv => (lhs; whnf)) ?_ | refine r_nil ?_ | refine q_then ?_)
  try refine wp_seq_block ?_
  refine wp_for [(3, 8), (11, 64)] (fun j ρ w' => w' = w_1 ∧ j ≤ s.length ∧ ρ 4 = .int .i64 ((s.length : Int) - j) ∧ (47 : UInt8) ∉ s.take (s.length - j)) s.length ?_ ?_
  · exact ⟨rfl, Nat.le_refl _, congrArg (Value.int .i64) (by omega), by simp⟩
  rintro j u w2 ⟨rfl, hj, h4, hno⟩
  refine wp_learn 4 h4 ?_
  clear h4
  obtain ⟨i, hi⟩ : ∃ i, i = s.length - j := ⟨_, rfl⟩
  rw [show (s.length : Int) - j = (i : Int) by omega]
  rw [← hi] at hno
  repeat (first | refine r_lenS rfl ?_ | refine wp_seq_region ?_ | refine wp_seq_seq ?_ | refine wp_region ?_ | refine r_move (by conv => (lhs; whnf)) ?_ | refine r_nil ?_ | refine q_then ?_ | refine r_lss rfl rfl ?_)
  try refine wp_seq_cond ?_
  refine wp_cond_dec rfl ?_ ?_ <;> intro hlt
  · obtain ⟨c, hc⟩ : ∃ c, s[i]? = some c := ⟨s[i], List.getElem?_eq_getElem (by omega)⟩
    repeat (first | refine r_indexS i rfl rfl rfl hc ?_ | refine wp_seq_region ?_ | refine wp_seq_seq ?_ | refine wp_seq_bseq ?_ | refine wp_region ?_ | refine r_move (by conv => (lhs; whnf)) ?_ | refine r_nil ?_ | refine q_then ?_ | refine wp_block_seq ?_ | refine wp_skip ?_ | refine r_neq rfl rfl ?_)
    refine wp_cond_dec rfl ?_ ?_ <;> intro h47
    · have hc47 : c ≠ 47 := by rintro rfl; exact h47 rfl
      repeat (first | refine wp_region ?_ | refine r_move (by conv => (lhs; whnf)) ?_ | refine r_assign (by conv => (lhs; whnf)) ?_ | refine r_nil ?_ | refine q_then ?_ | refine wp_exit ?_ | refine r_addI rfl rfl (by omega) (by omega) ?_)
      refine ⟨by (repeat (first | refine agree_upd rfl ?_ | exact agree_over | refine agree_sub rfl ?_ | exact agree_refl | refine agree_base rfl ?_ | refine agree_base' rfl ?_)), j - 1, by omega, rfl, by omega, congrArg (Value.int .i64) (by omega), ?_⟩
      rw [show s.length - (j - 1) = i + 1 by omega, List.take_add_one, hc]
      simp only [Option.toList_some, List.mem_append, List.mem_singleton, not_or]
      exact ⟨hno, fun h => hc47 h.symm⟩
    · have hc47 : c = 47 := by
        apply UInt8.toNat_inj.1
        show c.toNat = 47
        omega
      subst hc47
      obtain ⟨a, ha⟩ : ∃ a, a = s.take i := ⟨_, rfl⟩
      obtain ⟨b, hb⟩ : ∃ b, b = s.drop (i + 1) := ⟨_, rfl⟩
      have hs : s = a ++ 47 :: b := by
        rw [ha, hb]
        have h1 : s.drop i = 47 :: s.drop (i + 1) := by
          rw [List.drop_eq_getElem_cons (by omega)]
          rw [List.getElem?_eq_getElem (by omega)] at hc
          rw [Option.some.inj hc]
        rw [← h1, List.take_append_drop]
      have hal : a.length ≤ s.length := by rw [ha, List.length_take]; omega
      have hbl : b.length ≤ s.length := by rw [hb, List.length_drop]; omega
      rw [← ha] at hno
      repeat (first | refine r_sliceS_high i rfl rfl rfl (by omega) ?_ | refine wp_seq_region ?_ | refine wp_region ?_ | refine r_move (by conv => (lhs; whnf)) ?_ | refine wp_skip ?_)
      rw [← ha]
      refine r_call (zparse_c hS (by omega)) rfl ?_
      rintro v_2 w_2 ⟨k_2, hp⟩
      replace hS := hS.to k_2
      replace hg := hg.to k_2
      replace k := k.trans k_2
      clear k_2
      obtain ⟨b1, m1, vb1, rfl, h1⟩ := hp.pc
      have o1 := h1.1
      have o2 := h1.2.1
      clear hp
      repeat (first | refine r_move (by conv => (lhs; whnf)) ?_ | refine r_extract rfl rfl ?_)
      refine r_new (zs := [.bool false, .slice none 0 0]) (us := [b1, m1]) rfl (fun _ => rfl) rfl rfl (ones2 o1 o2) ?_
      intro w_3 g5 k_3 hs_3 hg5
      have hsg5 : w.heap.size ≤ g5 := Nat.le_trans k.size hs_3
      have ne_g_g5 : g ≠ g5 := fun e => by have := hg.lt; omega
      clear hs_3
      replace hS := hS.to k_3
      replace hg := hg.to k_3
      replace h1 := h1.to k_3
      replace k := k.trans k_3
      clear k_3
      repeat (first | refine r_sliceS_low (i + 1) rfl rfl rfl (by omega) ?_ | refine wp_seq_region ?_ | refine wp_region ?_ | refine r_move (by conv => (lhs; whnf)) ?_ | refine r_assign (by conv => (lhs; whnf)) ?_ | refine r_nil ?_ | refine r_addI rfl rfl (by omega) (by omega) ?_)
      rw [← hb]
      refine r_call (zparse_c hS (by omega)) rfl ?_
      rintro v_4 w_4 ⟨k_4, hp⟩
      replace hS := hS.to k_4
      replace hg := hg.to k_4
      replace h1 := h1.to k_4
      replace hg5 := hg5.to k_4
      replace k := k.trans k_4
      clear k_4
      obtain ⟨b2, m2, vb2, rfl, h2⟩ := hp.pc
      have o3 := h2.1
      have o4 := h2.2.1
      clear hp
      repeat (first | refine r_move (by conv => (lhs; whnf)) ?_ | refine r_extract rfl rfl ?_)
      refine r_new (zs := [.bool false, .slice none 0 0]) (us := [b2, m2]) rfl (fun _ => rfl) rfl rfl (ones2 o3 o4) ?_
      intro w_5 g7 k_5 hs_5 hg7
      have hsg7 : w.heap.size ≤ g7 := Nat.le_trans k.size hs_5
      have ne_g_g7 : g ≠ g7 := fun e => by have := hg.lt; omega
      have ne_g5_g7 : g5 ≠ g7 := fun e => by have := hg5.lt; omega
      clear hs_5
      replace hS := hS.to k_5
      replace hg := hg.to k_5
      replace h1 := h1.to k_5
      replace hg5 := hg5.to k_5
      replace h2 := h2.to k_5
      replace k := k.trans k_5
      clear k_5
      subst hs
      have hng : g ≠ g7 := ne_g_g7
      obtain ⟨_, _, ⟨rfl, n, hn, hzn⟩ | ⟨rfl, hbad⟩⟩ := h1
      · obtain ⟨_, _, ⟨rfl, d, hd, hzd⟩ | ⟨rfl, hbad⟩⟩ := h2
        · skip
          have ln : zl n ≤ 15637498706148 := zl_itoa hn (by omega)
          have ld : zl d ≤ 15637498706148 := zl_itoa hd (by omega)
          have l1 := zl_one
          obtain ⟨mn, en, hmn⟩ := hzn
          obtain ⟨md, ed, hmd⟩ := hzd
          have e1 : b1 = .bool (tst (n < 0)) ∧ m1 = mn := by simpa using en
          have e2 : b2 = .bool (tst (d < 0)) ∧ m2 = md := by simpa using ed
          obtain ⟨rfl, rfl⟩ := e1
          obtain ⟨rfl, rfl⟩ := e2
          clear en ed
          by_cases h0 : d ≤ 0
          · have hb2 := cut_bad2 hno hn hd (.inl h0)
            repeat (first | refine wp_seq_region ?_ | refine wp_seq_seq ?_ | refine r_assign (by conv => (lhs; whnf)) ?_ | refine r_nil ?_)
            refine wp_drawn 24 (by kernel_rfl) (by kernel_rfl) ?_
            apply ob_step
            · intro x w1 k1 hd
              refine r_move (by conv => (lhs; whnf)) ?_
              refine r_nil ?_
              exact ob_eq
            apply ob_step
            · intro x w1 k1 hd
              refine r_not rfl ?_
              refine r_nil ?_
              exact ob_eq
            apply ob_step
            · intro x w1 k1 hd
              refine r_move (by conv => (lhs; whnf)) ?_
              refine r_nil ?_
              exact ob_eq
            apply ob_step
            · intro x w1 k1 hd
              refine r_guard_run rfl rfl ?_
              refine r_move (by conv => (lhs; whnf)) ?_
              refine r_nil ?_
              exact ob_eq
            apply ob_step
            · intro x w1 k1 hd
              refine r_guard_run rfl rfl ?_
              refine r_not rfl ?_
              refine r_nil ?_
              exact ob_eq
            apply ob_step
            · intro x w1 k1 hd
              refine r_pick_false rfl (by conv => (lhs; whnf)) ?_
              refine r_nil ?_
              exact ob_eq
            apply ob_step
            · intro x w1 k1 hd
              refine r_move (by conv => (lhs; whnf)) ?_
              refine r_nil ?_
              exact ob_eq
            apply ob_step
            · intro x w1 k1 hd
              refine r_guard_run rfl rfl ?_
              refine r_load_all rfl (hg7.to k1) rfl ?_
              refine r_nil ?_
              exact ob_eq
            refine ob_step (e := Ent.eq (.int .i64 d.sign)) ?_ ?_
            · intro x w1 k1 hd
              refine r_guard_run rfl rfl ?_
              refine r_call (zsign_c (z := d) ⟨m2, rfl, hmd.to k1⟩) rfl ?_
              rintro v2 w2 ⟨rfl, k2⟩
              exact r_nil (ob_eqv (rfl) k2)
            refine ob_step (e := Ent.eq (.bool true)) ?_ ?_
            · intro x w1 k1 hd
              refine r_guard_run rfl rfl ?_
              refine r_leq rfl rfl ?_
              refine r_nil ?_
              exact ob_eqv (congrArg Value.bool (tst_true (by have := Int.sign_eq_one_iff_pos (a := d); have := Int.sign_eq_neg_one_iff_neg (a := d); have := Int.sign_eq_zero_iff_zero (a := d); omega))) .refl
            apply ob_step
            · intro x w1 k1 hd
              refine r_pick_false rfl (by conv => (lhs; whnf)) ?_
              refine r_nil ?_
              exact ob_eq
            apply ob_step
            · intro x w1 k1 hd
              refine r_move (by conv => (lhs; whnf)) ?_
              refine r_nil ?_
              exact ob_eq
            apply ob_step
            · intro x w1 k1 hd
              refine r_guard_skip rfl rfl rfl ?_
              refine r_nil ?_
              exact ob_eq
            apply ob_step
            · intro x w1 k1 hd
              refine r_guard_skip rfl rfl rfl ?_
              refine r_nil ?_
              exact ob_eq
            apply ob_step
            · intro x w1 k1 hd
              refine r_guard_skip rfl rfl rfl ?_
              refine r_nil ?_
              exact ob_eq
            apply ob_step
            · intro x w1 k1 hd
              refine r_guard_skip rfl rfl rfl ?_
              refine r_nil ?_
              exact ob_eq
            apply ob_step
            · intro x w1 k1 hd
              refine r_pick_true rfl (by conv => (lhs; whnf)) ?_
              refine r_nil ?_
              exact ob_eq
            apply ob_step
            · intro x w1 k1 hd
              refine r_move (by conv => (lhs; whnf)) ?_
              refine r_nil ?_
              exact ob_eq
            apply ob_step
            · intro x w1 k1 hd
              refine r_guard_skip rfl rfl rfl ?_
              refine r_nil ?_
              exact ob_eq
            apply ob_step
            · intro x w1 k1 hd
              refine r_guard_skip rfl rfl rfl ?_
              refine r_nil ?_
              exact ob_eq
            apply ob_step
            · intro x w1 k1 hd
              refine r_guard_skip rfl rfl rfl ?_
              refine r_nil ?_
              exact ob_eq
            apply ob_step
            · intro x w1 k1 hd
              refine r_guard_skip rfl rfl rfl ?_
              refine r_nil ?_
              exact ob_eq
            apply ob_step
            · intro x w1 k1 hd
              refine r_guard_skip rfl rfl rfl ?_
              refine r_nil ?_
              exact ob_eq
            apply ob_step
            · intro x w1 k1 hd
              refine r_guard_skip rfl rfl rfl ?_
              refine r_nil ?_
              exact ob_eq
            refine ob_nil (ob_end ?_)
            intro x w9 k9 _
            replace hS := hS.to k9
            replace hg := hg.to k9
            replace hg5 := hg5.to k9
            replace hg7 := hg7.to k9
            replace hmn := hmn.to k9
            replace hmd := hmd.to k9
            replace k := k.trans k9
            clear k9
            repeat (first | refine wp_seq_region ?_ | refine wp_region ?_ | refine r_nil ?_ | refine q_then ?_ | refine r_pick_true rfl (by conv => (lhs; whnf)) ?_ | refine wp_cond_true rfl ?_)
            refine r_build0 (cs := [.bool false, .slice none 0 0, .bool false, .slice none 0 0]) rfl ?_
            refine r_store4 rfl (by conv => (lhs; whnf)) hg rfl rfl rfl rfl rfl ?_
            intro w_7 k_7 h_7
            replace hS := hS.to k_7
            replace hg5 := hg5.wr k_7 (by omega)
            replace hg7 := hg7.wr k_7 (by omega)
            replace hmn := hmn.wrT k_7 hg (by decide)
            replace hmd := hmd.wrT k_7 hg (by decide)
            replace k : Ext w w_7 := k.past k_7 hsg
            replace hg := h_7
            clear h_7 k_7
            repeat (first | refine r_assign (by conv => (lhs; whnf)) ?_ | refine r_nil ?_ | refine q_then ?_ | refine wp_ret ?_ | refine q_then_ret ?_ | refine q_block_ret ?_)
            exact end2 rfl (resV_agg (by conv => (lhs; whnf)) hg rfl) (resV_tmp (by conv => (lhs; whnf))) ⟨k, .inr ⟨hb2, rfl⟩⟩
          · have hs1 : d.sign = 1 := Int.sign_eq_one_of_pos (by omega)
            by_cases h1 : d = 1
            · have hb2 := cut_bad2 hno hn hd (.inr (.inl h1))
              repeat (first | refine wp_seq_region ?_ | refine wp_seq_seq ?_ | refine r_assign (by conv => (lhs; whnf)) ?_ | refine r_nil ?_)
              refine wp_drawn 24 (by kernel_rfl) (by kernel_rfl) ?_
              apply ob_step
              · intro x w1 k1 hd
                refine r_move (by conv => (lhs; whnf)) ?_
                refine r_nil ?_
                exact ob_eq
              apply ob_step
              · intro x w1 k1 hd
                refine r_not rfl ?_
                refine r_nil ?_
                exact ob_eq
              apply ob_step
              · intro x w1 k1 hd
                refine r_move (by conv => (lhs; whnf)) ?_
                refine r_nil ?_
                exact ob_eq
              apply ob_step
              · intro x w1 k1 hd
                refine r_guard_run rfl rfl ?_
                refine r_move (by conv => (lhs; whnf)) ?_
                refine r_nil ?_
                exact ob_eq
              apply ob_step
              · intro x w1 k1 hd
                refine r_guard_run rfl rfl ?_
                refine r_not rfl ?_
                refine r_nil ?_
                exact ob_eq
              apply ob_step
              · intro x w1 k1 hd
                refine r_pick_false rfl (by conv => (lhs; whnf)) ?_
                refine r_nil ?_
                exact ob_eq
              apply ob_step
              · intro x w1 k1 hd
                refine r_move (by conv => (lhs; whnf)) ?_
                refine r_nil ?_
                exact ob_eq
              apply ob_step
              · intro x w1 k1 hd
                refine r_guard_run rfl rfl ?_
                refine r_load_all rfl (hg7.to k1) rfl ?_
                refine r_nil ?_
                exact ob_eq
              refine ob_step (e := Ent.eq (.int .i64 d.sign)) ?_ ?_
              · intro x w1 k1 hd
                refine r_guard_run rfl rfl ?_
                refine r_call (zsign_c (z := d) ⟨m2, rfl, hmd.to k1⟩) rfl ?_
                rintro v2 w2 ⟨rfl, k2⟩
                exact r_nil (ob_eqv (rfl) k2)
              refine ob_step (e := Ent.eq (.bool false)) ?_ ?_
              · intro x w1 k1 hd
                refine r_guard_run rfl rfl ?_
                refine r_leq rfl rfl ?_
                refine r_nil ?_
                exact ob_eqv (congrArg Value.bool (tst_false (by omega))) .refl
              apply ob_step
              · intro x w1 k1 hd
                refine r_pick_false rfl (by conv => (lhs; whnf)) ?_
                refine r_nil ?_
                exact ob_eq
              apply ob_step
              · intro x w1 k1 hd
                refine r_move (by conv => (lhs; whnf)) ?_
                refine r_nil ?_
                exact ob_eq
              apply ob_step
              · intro x w1 k1 hd
                refine r_guard_run rfl rfl ?_
                refine r_load_all rfl (hg7.to k1) rfl ?_
                refine r_nil ?_
                exact ob_eq
              refine ob_step (e := zE S 1) ?_ ?_
              · intro x w1 k1 hd
                refine r_guard_run rfl rfl ?_
                refine r_call (zof_c (z := 1) (hS.to k1) (by decide) (by decide)) rfl ?_
                rintro v2 w2 ⟨k2, h2⟩
                exact r_nil (ob_of k2 h2)
              refine ob_step (e := Ent.eq (.int .i64 (d - 1).sign)) ?_ ?_
              · intro x w1 k1 hd
                refine r_guard_run rfl rfl ?_
                refine r_call (zcmp_c (S := S) (a := d) (b := 1) (hS.to k1) ⟨m2, rfl, hmd.to k1⟩ hd.1 (by omega) (by omega)) rfl ?_
                rintro v2 w2 ⟨rfl, k2⟩
                exact r_nil (ob_eqv (rfl) k2)
              refine ob_step (e := Ent.eq (.bool true)) ?_ ?_
              · intro x w1 k1 hd
                refine r_guard_run rfl rfl ?_
                refine r_eql rfl rfl ?_
                refine r_nil ?_
                exact ob_eqv (congrArg Value.bool (tst_true (by rw [h1]; rfl))) .refl
              apply ob_step
              · intro x w1 k1 hd
                refine r_pick_false rfl (by conv => (lhs; whnf)) ?_
                refine r_nil ?_
                exact ob_eq
              apply ob_step
              · intro x w1 k1 hd
                refine r_move (by conv => (lhs; whnf)) ?_
                refine r_nil ?_
                exact ob_eq
              apply ob_step
              · intro x w1 k1 hd
                refine r_guard_skip rfl rfl rfl ?_
                refine r_nil ?_
                exact ob_eq
              apply ob_step
              · intro x w1 k1 hd
                refine r_guard_skip rfl rfl rfl ?_
                refine r_nil ?_
                exact ob_eq
              apply ob_step
              · intro x w1 k1 hd
                refine r_guard_skip rfl rfl rfl ?_
                refine r_nil ?_
                exact ob_eq
              apply ob_step
              · intro x w1 k1 hd
                refine r_guard_skip rfl rfl rfl ?_
                refine r_nil ?_
                exact ob_eq
              apply ob_step
              · intro x w1 k1 hd
                refine r_guard_skip rfl rfl rfl ?_
                refine r_nil ?_
                exact ob_eq
              apply ob_step
              · intro x w1 k1 hd
                refine r_guard_skip rfl rfl rfl ?_
                refine r_nil ?_
                exact ob_eq
              refine ob_nil (ob_end ?_)
              intro x w9 k9 _
              replace hS := hS.to k9
              replace hg := hg.to k9
              replace hg5 := hg5.to k9
              replace hg7 := hg7.to k9
              replace hmn := hmn.to k9
              replace hmd := hmd.to k9
              replace k := k.trans k9
              clear k9
              repeat (first | refine wp_seq_region ?_ | refine wp_region ?_ | refine r_nil ?_ | refine q_then ?_ | refine r_pick_true rfl (by conv => (lhs; whnf)) ?_ | refine wp_cond_true rfl ?_)
              refine r_build0 (cs := [.bool false, .slice none 0 0, .bool false, .slice none 0 0]) rfl ?_
              refine r_store4 rfl (by conv => (lhs; whnf)) hg rfl rfl rfl rfl rfl ?_
              intro w_7 k_7 h_7
              replace hS := hS.to k_7
              replace hg5 := hg5.wr k_7 (by omega)
              replace hg7 := hg7.wr k_7 (by omega)
              replace hmn := hmn.wrT k_7 hg (by decide)
              replace hmd := hmd.wrT k_7 hg (by decide)
              replace k : Ext w w_7 := k.past k_7 hsg
              replace hg := h_7
              clear h_7 k_7
              repeat (first | refine r_assign (by conv => (lhs; whnf)) ?_ | refine r_nil ?_ | refine q_then ?_ | refine wp_ret ?_ | refine q_then_ret ?_ | refine q_block_ret ?_)
              exact end2 rfl (resV_agg (by conv => (lhs; whnf)) hg rfl) (resV_tmp (by conv => (lhs; whnf))) ⟨k, .inr ⟨hb2, rfl⟩⟩
            · have hs2 : (d - 1).sign = 1 := Int.sign_eq_one_of_pos (by omega)
              have lg := gcd_zl (a := n) (b := d) (by omega) ld
              repeat (first | refine wp_seq_region ?_ | refine wp_seq_seq ?_ | refine r_assign (by conv => (lhs; whnf)) ?_ | refine r_nil ?_)
              refine wp_drawn 24 (by kernel_rfl) (by kernel_rfl) ?_
              apply ob_step
              · intro x w1 k1 hd
                refine r_move (by conv => (lhs; whnf)) ?_
                refine r_nil ?_
                exact ob_eq
              apply ob_step
              · intro x w1 k1 hd
                refine r_not rfl ?_
                refine r_nil ?_
                exact ob_eq
              apply ob_step
              · intro x w1 k1 hd
                refine r_move (by conv => (lhs; whnf)) ?_
                refine r_nil ?_
                exact ob_eq
              apply ob_step
              · intro x w1 k1 hd
                refine r_guard_run rfl rfl ?_
                refine r_move (by conv => (lhs; whnf)) ?_
                refine r_nil ?_
                exact ob_eq
              apply ob_step
              · intro x w1 k1 hd
                refine r_guard_run rfl rfl ?_
                refine r_not rfl ?_
                refine r_nil ?_
                exact ob_eq
              apply ob_step
              · intro x w1 k1 hd
                refine r_pick_false rfl (by conv => (lhs; whnf)) ?_
                refine r_nil ?_
                exact ob_eq
              apply ob_step
              · intro x w1 k1 hd
                refine r_move (by conv => (lhs; whnf)) ?_
                refine r_nil ?_
                exact ob_eq
              apply ob_step
              · intro x w1 k1 hd
                refine r_guard_run rfl rfl ?_
                refine r_load_all rfl (hg7.to k1) rfl ?_
                refine r_nil ?_
                exact ob_eq
              refine ob_step (e := Ent.eq (.int .i64 d.sign)) ?_ ?_
              · intro x w1 k1 hd
                refine r_guard_run rfl rfl ?_
                refine r_call (zsign_c (z := d) ⟨m2, rfl, hmd.to k1⟩) rfl ?_
                rintro v2 w2 ⟨rfl, k2⟩
                exact r_nil (ob_eqv (rfl) k2)
              refine ob_step (e := Ent.eq (.bool false)) ?_ ?_
              · intro x w1 k1 hd
                refine r_guard_run rfl rfl ?_
                refine r_leq rfl rfl ?_
                refine r_nil ?_
                exact ob_eqv (congrArg Value.bool (tst_false (by omega))) .refl
              apply ob_step
              · intro x w1 k1 hd
                refine r_pick_false rfl (by conv => (lhs; whnf)) ?_
                refine r_nil ?_
                exact ob_eq
              apply ob_step
              · intro x w1 k1 hd
                refine r_move (by conv => (lhs; whnf)) ?_
                refine r_nil ?_
                exact ob_eq
              apply ob_step
              · intro x w1 k1 hd
                refine r_guard_run rfl rfl ?_
                refine r_load_all rfl (hg7.to k1) rfl ?_
                refine r_nil ?_
                exact ob_eq
              refine ob_step (e := zE S 1) ?_ ?_
              · intro x w1 k1 hd
                refine r_guard_run rfl rfl ?_
                refine r_call (zof_c (z := 1) (hS.to k1) (by decide) (by decide)) rfl ?_
                rintro v2 w2 ⟨k2, h2⟩
                exact r_nil (ob_of k2 h2)
              refine ob_step (e := Ent.eq (.int .i64 (d - 1).sign)) ?_ ?_
              · intro x w1 k1 hd
                refine r_guard_run rfl rfl ?_
                refine r_call (zcmp_c (S := S) (a := d) (b := 1) (hS.to k1) ⟨m2, rfl, hmd.to k1⟩ hd.1 (by omega) (by omega)) rfl ?_
                rintro v2 w2 ⟨rfl, k2⟩
                exact r_nil (ob_eqv (rfl) k2)
              refine ob_step (e := Ent.eq (.bool false)) ?_ ?_
              · intro x w1 k1 hd
                refine r_guard_run rfl rfl ?_
                refine r_eql rfl rfl ?_
                refine r_nil ?_
                exact ob_eqv (congrArg Value.bool (tst_false (by omega))) .refl
              apply ob_step
              · intro x w1 k1 hd
                refine r_pick_false rfl (by conv => (lhs; whnf)) ?_
                refine r_nil ?_
                exact ob_eq
              apply ob_step
              · intro x w1 k1 hd
                refine r_move (by conv => (lhs; whnf)) ?_
                refine r_nil ?_
                exact ob_eq
              apply ob_step
              · intro x w1 k1 hd
                refine r_guard_run rfl rfl ?_
                refine r_load_all rfl (hg5.to k1) rfl ?_
                refine r_nil ?_
                exact ob_eq
              apply ob_step
              · intro x w1 k1 hd
                refine r_guard_run rfl rfl ?_
                refine r_load_all rfl (hg7.to k1) rfl ?_
                refine r_nil ?_
                exact ob_eq
              refine ob_step (e := zE S (Int.gcd n d : Int)) ?_ ?_
              · intro x w1 k1 hd
                refine r_guard_run rfl rfl ?_
                refine r_call (zgcd_c (a := n) (b := d) (hS.to k1) ⟨m1, rfl, hmn.to k1⟩ ⟨m2, rfl, hmd.to k1⟩ (by omega) (by omega)) rfl ?_
                rintro v2 w2 ⟨k2, h2⟩
                exact r_nil (ob_of k2 h2)
              refine ob_step (e := zE S 1) ?_ ?_
              · intro x w1 k1 hd
                refine r_guard_run rfl rfl ?_
                refine r_call (zof_c (z := 1) (hS.to k1) (by decide) (by decide)) rfl ?_
                rintro v2 w2 ⟨k2, h2⟩
                exact r_nil (ob_of k2 h2)
              refine ob_step (e := Ent.eq (.int .i64 ((Int.gcd n d : Int) - 1).sign)) ?_ ?_
              · intro x w1 k1 hd
                refine r_guard_run rfl rfl ?_
                refine r_call (zcmp_c (S := S) (a := (Int.gcd n d : Int)) (b := 1) (hS.to k1) hd.2.1 hd.1 (by omega) (by omega)) rfl ?_
                rintro v2 w2 ⟨rfl, k2⟩
                exact r_nil (ob_eqv (rfl) k2)
              refine ob_step (e := Ent.eq (.bool (tst (Int.gcd n d ≠ 1)))) ?_ ?_
              · intro x w1 k1 hd
                refine r_guard_run rfl rfl ?_
                refine r_neq rfl rfl ?_
                refine r_nil ?_
                exact ob_eqv (congrArg Value.bool (tst_congr (not_congr (by rw [Int.sign_eq_zero_iff_zero]; omega)))) .refl
              refine ob_nil (ob_end ?_)
              intro x w9 k9 _
              replace hS := hS.to k9
              replace hg := hg.to k9
              replace hg5 := hg5.to k9
              replace hg7 := hg7.to k9
              replace hmn := hmn.to k9
              replace hmd := hmd.to k9
              replace k := k.trans k9
              clear k9
              repeat (first | refine r_nil ?_ | refine q_then ?_ | refine r_pick_false rfl (by conv => (lhs; whnf)) ?_)
              refine wp_cond_dec rfl ?_ ?_ <;> intro hgc
              · have hb2 := cut_bad2 hno hn hd (.inr (.inr hgc))
                repeat (first | refine wp_seq_region ?_ | refine wp_region ?_)
                refine r_build0 (cs := [.bool false, .slice none 0 0, .bool false, .slice none 0 0]) rfl ?_
                refine r_store4 rfl (by conv => (lhs; whnf)) hg rfl rfl rfl rfl rfl ?_
                intro w_7 k_7 h_7
                replace hS := hS.to k_7
                replace hg5 := hg5.wr k_7 (by omega)
                replace hg7 := hg7.wr k_7 (by omega)
                replace hmn := hmn.wrT k_7 hg (by decide)
                replace hmd := hmd.wrT k_7 hg (by decide)
                replace k : Ext w w_7 := k.past k_7 hsg
                replace hg := h_7
                clear h_7 k_7
                repeat (first | refine r_assign (by conv => (lhs; whnf)) ?_ | refine r_nil ?_ | refine q_then ?_ | refine wp_ret ?_ | refine q_then_ret ?_ | refine q_block_ret ?_)
                exact end2 rfl (resV_agg (by conv => (lhs; whnf)) hg rfl) (resV_tmp (by conv => (lhs; whnf))) ⟨k, .inr ⟨hb2, rfl⟩⟩
              · obtain ⟨q, hq1, hq2, hq3⟩ := cut_good hno hn hd (by omega) h1 (Classical.not_not.1 hgc)
                subst hq1 hq2
                rw [Int.natAbs_natCast] at hmd
                repeat (first | refine r_load_all rfl hg5 rfl ?_ | refine r_load_all rfl hg7 rfl ?_ | refine wp_seq_region ?_ | refine wp_region ?_ | refine wp_skip ?_)
                refine r_build22 (by conv => (lhs; whnf)) (by conv => (lhs; whnf)) ?_
                refine r_store4 rfl (by conv => (lhs; whnf)) hg rfl rfl hmn.one rfl hmd.one ?_
                intro w_7 k_7 h_7
                replace hS := hS.to k_7
                replace hg5 := hg5.wr k_7 (by omega)
                replace hg7 := hg7.wr k_7 (by omega)
                replace hmn := hmn.wrT k_7 hg (by decide)
                replace hmd := hmd.wrT k_7 hg (by decide)
                replace k : Ext w w_7 := k.past k_7 hsg
                replace hg := h_7
                clear h_7 k_7
                repeat (first | refine r_assign (by conv => (lhs; whnf)) ?_ | refine r_nil ?_ | refine q_then ?_ | refine wp_ret ?_ | refine q_then_ret ?_ | refine q_block_ret ?_)
                exact end2 rfl (resV_agg (by conv => (lhs; whnf)) hg rfl) (resV_tmp (by conv => (lhs; whnf))) ⟨k, .inl ⟨q, _, hq3, rfl, m1, m2, rfl, hmn, hmd⟩⟩
        · have hb2 := cut_bad (b := b) hno (.inr hbad)
          repeat (first | refine wp_seq_region ?_ | refine wp_seq_seq ?_ | refine r_assign (by conv => (lhs; whnf)) ?_ | refine r_nil ?_)
          refine wp_drawn 24 (by kernel_rfl) (by kernel_rfl) ?_
          apply ob_step
          · intro x w1 k1 hd
            refine r_move (by conv => (lhs; whnf)) ?_
            refine r_nil ?_
            exact ob_eq
          apply ob_step
          · intro x w1 k1 hd
            refine r_not rfl ?_
            refine r_nil ?_
            exact ob_eq
          apply ob_step
          · intro x w1 k1 hd
            refine r_move (by conv => (lhs; whnf)) ?_
            refine r_nil ?_
            exact ob_eq
          apply ob_step
          · intro x w1 k1 hd
            refine r_guard_run rfl rfl ?_
            refine r_move (by conv => (lhs; whnf)) ?_
            refine r_nil ?_
            exact ob_eq
          apply ob_step
          · intro x w1 k1 hd
            refine r_guard_run rfl rfl ?_
            refine r_not rfl ?_
            refine r_nil ?_
            exact ob_eq
          apply ob_step
          · intro x w1 k1 hd
            refine r_pick_false rfl (by conv => (lhs; whnf)) ?_
            refine r_nil ?_
            exact ob_eq
          apply ob_step
          · intro x w1 k1 hd
            refine r_move (by conv => (lhs; whnf)) ?_
            refine r_nil ?_
            exact ob_eq
          apply ob_step
          · intro x w1 k1 hd
            refine r_guard_skip rfl rfl rfl ?_
            refine r_nil ?_
            exact ob_eq
          apply ob_step
          · intro x w1 k1 hd
            refine r_guard_skip rfl rfl rfl ?_
            refine r_nil ?_
            exact ob_eq
          apply ob_step
          · intro x w1 k1 hd
            refine r_guard_skip rfl rfl rfl ?_
            refine r_nil ?_
            exact ob_eq
          apply ob_step
          · intro x w1 k1 hd
            refine r_pick_true rfl (by conv => (lhs; whnf)) ?_
            refine r_nil ?_
            exact ob_eq
          apply ob_step
          · intro x w1 k1 hd
            refine r_move (by conv => (lhs; whnf)) ?_
            refine r_nil ?_
            exact ob_eq
          apply ob_step
          · intro x w1 k1 hd
            refine r_guard_skip rfl rfl rfl ?_
            refine r_nil ?_
            exact ob_eq
          apply ob_step
          · intro x w1 k1 hd
            refine r_guard_skip rfl rfl rfl ?_
            refine r_nil ?_
            exact ob_eq
          apply ob_step
          · intro x w1 k1 hd
            refine r_guard_skip rfl rfl rfl ?_
            refine r_nil ?_
            exact ob_eq
          apply ob_step
          · intro x w1 k1 hd
            refine r_guard_skip rfl rfl rfl ?_
            refine r_nil ?_
            exact ob_eq
          apply ob_step
          · intro x w1 k1 hd
            refine r_pick_true rfl (by conv => (lhs; whnf)) ?_
            refine r_nil ?_
            exact ob_eq
          apply ob_step
          · intro x w1 k1 hd
            refine r_move (by conv => (lhs; whnf)) ?_
            refine r_nil ?_
            exact ob_eq
          apply ob_step
          · intro x w1 k1 hd
            refine r_guard_skip rfl rfl rfl ?_
            refine r_nil ?_
            exact ob_eq
          apply ob_step
          · intro x w1 k1 hd
            refine r_guard_skip rfl rfl rfl ?_
            refine r_nil ?_
            exact ob_eq
          apply ob_step
          · intro x w1 k1 hd
            refine r_guard_skip rfl rfl rfl ?_
            refine r_nil ?_
            exact ob_eq
          apply ob_step
          · intro x w1 k1 hd
            refine r_guard_skip rfl rfl rfl ?_
            refine r_nil ?_
            exact ob_eq
          apply ob_step
          · intro x w1 k1 hd
            refine r_guard_skip rfl rfl rfl ?_
            refine r_nil ?_
            exact ob_eq
          apply ob_step
          · intro x w1 k1 hd
            refine r_guard_skip rfl rfl rfl ?_
            refine r_nil ?_
            exact ob_eq
          refine ob_nil (ob_end ?_)
          intro x w9 k9 _
          replace hS := hS.to k9
          replace hg := hg.to k9
          replace k := k.trans k9
          clear k9
          repeat (first | refine wp_seq_region ?_ | refine wp_region ?_ | refine r_nil ?_ | refine q_then ?_ | refine r_pick_true rfl (by conv => (lhs; whnf)) ?_ | refine wp_cond_true rfl ?_)
          refine r_build0 (cs := [.bool false, .slice none 0 0, .bool false, .slice none 0 0]) rfl ?_
          refine r_store4 rfl (by conv => (lhs; whnf)) hg rfl rfl rfl rfl rfl ?_
          intro w_7 k_7 h_7
          replace hS := hS.to k_7
          replace k : Ext w w_7 := k.past k_7 hsg
          replace hg := h_7
          clear h_7 k_7
          repeat (first | refine r_assign (by conv => (lhs; whnf)) ?_ | refine r_nil ?_ | refine q_then ?_ | refine wp_ret ?_ | refine q_then_ret ?_ | refine q_block_ret ?_)
          exact end2 rfl (resV_agg (by conv => (lhs; whnf)) hg rfl) (resV_tmp (by conv => (lhs; whnf))) ⟨k, .inr ⟨hb2, rfl⟩⟩
      · have hb2 := cut_bad (b := b) hno (.inl hbad)
        repeat (first | refine wp_seq_region ?_ | refine wp_seq_seq ?_ | refine r_assign (by conv => (lhs; whnf)) ?_ | refine r_nil ?_)
        refine wp_drawn 24 (by kernel_rfl) (by kernel_rfl) ?_
        apply ob_step
        · intro x w1 k1 hd
          refine r_move (by conv => (lhs; whnf)) ?_
          refine r_nil ?_
          exact ob_eq
        apply ob_step
        · intro x w1 k1 hd
          refine r_not rfl ?_
          refine r_nil ?_
          exact ob_eq
        apply ob_step
        · intro x w1 k1 hd
          refine r_move (by conv => (lhs; whnf)) ?_
          refine r_nil ?_
          exact ob_eq
        apply ob_step
        · intro x w1 k1 hd
          refine r_guard_skip rfl rfl rfl ?_
          refine r_nil ?_
          exact ob_eq
        apply ob_step
        · intro x w1 k1 hd
          refine r_guard_skip rfl rfl rfl ?_
          refine r_nil ?_
          exact ob_eq
        apply ob_step
        · intro x w1 k1 hd
          refine r_pick_true rfl (by conv => (lhs; whnf)) ?_
          refine r_nil ?_
          exact ob_eq
        apply ob_step
        · intro x w1 k1 hd
          refine r_move (by conv => (lhs; whnf)) ?_
          refine r_nil ?_
          exact ob_eq
        apply ob_step
        · intro x w1 k1 hd
          refine r_guard_skip rfl rfl rfl ?_
          refine r_nil ?_
          exact ob_eq
        apply ob_step
        · intro x w1 k1 hd
          refine r_guard_skip rfl rfl rfl ?_
          refine r_nil ?_
          exact ob_eq
        apply ob_step
        · intro x w1 k1 hd
          refine r_guard_skip rfl rfl rfl ?_
          refine r_nil ?_
          exact ob_eq
        apply ob_step
        · intro x w1 k1 hd
          refine r_pick_true rfl (by conv => (lhs; whnf)) ?_
          refine r_nil ?_
          exact ob_eq
        apply ob_step
        · intro x w1 k1 hd
          refine r_move (by conv => (lhs; whnf)) ?_
          refine r_nil ?_
          exact ob_eq
        apply ob_step
        · intro x w1 k1 hd
          refine r_guard_skip rfl rfl rfl ?_
          refine r_nil ?_
          exact ob_eq
        apply ob_step
        · intro x w1 k1 hd
          refine r_guard_skip rfl rfl rfl ?_
          refine r_nil ?_
          exact ob_eq
        apply ob_step
        · intro x w1 k1 hd
          refine r_guard_skip rfl rfl rfl ?_
          refine r_nil ?_
          exact ob_eq
        apply ob_step
        · intro x w1 k1 hd
          refine r_guard_skip rfl rfl rfl ?_
          refine r_nil ?_
          exact ob_eq
        apply ob_step
        · intro x w1 k1 hd
          refine r_pick_true rfl (by conv => (lhs; whnf)) ?_
          refine r_nil ?_
          exact ob_eq
        apply ob_step
        · intro x w1 k1 hd
          refine r_move (by conv => (lhs; whnf)) ?_
          refine r_nil ?_
          exact ob_eq
        apply ob_step
        · intro x w1 k1 hd
          refine r_guard_skip rfl rfl rfl ?_
          refine r_nil ?_
          exact ob_eq
        apply ob_step
        · intro x w1 k1 hd
          refine r_guard_skip rfl rfl rfl ?_
          refine r_nil ?_
          exact ob_eq
        apply ob_step
        · intro x w1 k1 hd
          refine r_guard_skip rfl rfl rfl ?_
          refine r_nil ?_
          exact ob_eq
        apply ob_step
        · intro x w1 k1 hd
          refine r_guard_skip rfl rfl rfl ?_
          refine r_nil ?_
          exact ob_eq
        apply ob_step
        · intro x w1 k1 hd
          refine r_guard_skip rfl rfl rfl ?_
          refine r_nil ?_
          exact ob_eq
        apply ob_step
        · intro x w1 k1 hd
          refine r_guard_skip rfl rfl rfl ?_
          refine r_nil ?_
          exact ob_eq
        refine ob_nil (ob_end ?_)
        intro x w9 k9 _
        replace hS := hS.to k9
        replace hg := hg.to k9
        replace k := k.trans k9
        clear k9
        repeat (first | refine wp_seq_region ?_ | refine wp_region ?_ | refine r_nil ?_ | refine q_then ?_ | refine r_pick_true rfl (by conv => (lhs; whnf)) ?_ | refine wp_cond_true rfl ?_)
        refine r_build0 (cs := [.bool false, .slice none 0 0, .bool false, .slice none 0 0]) rfl ?_
        refine r_store4 rfl (by conv => (lhs; whnf)) hg rfl rfl rfl rfl rfl ?_
        intro w_7 k_7 h_7
        replace hS := hS.to k_7
        replace k : Ext w w_7 := k.past k_7 hsg
        replace hg := h_7
        clear h_7 k_7
        repeat (first | refine r_assign (by conv => (lhs; whnf)) ?_ | refine r_nil ?_ | refine q_then ?_ | refine wp_ret ?_ | refine q_then_ret ?_ | refine q_block_ret ?_)
        exact end2 rfl (resV_agg (by conv => (lhs; whnf)) hg rfl) (resV_tmp (by conv => (lhs; whnf))) ⟨k, .inr ⟨hb2, rfl⟩⟩
  · have hns : (47 : UInt8) ∉ s := by rwa [List.take_of_length_le (by omega)] at hno
    repeat (first | refine wp_seq_region ?_ | refine wp_region ?_ | refine r_move (by conv => (lhs; whnf)) ?_ | refine wp_exit ?_)
    refine r_call (zparse_c hS (by omega)) rfl ?_
    rintro v_2 w_2 ⟨k_2, hp⟩
    replace hS := hS.to k_2
    replace hg := hg.to k_2
    replace k := k.trans k_2
    clear k_2
    obtain ⟨b1, m1, vb1, rfl, h1⟩ := hp.pc
    have o1 := h1.1
    have o2 := h1.2.1
    clear hp
    repeat (first | refine r_move (by conv => (lhs; whnf)) ?_ | refine r_extract rfl rfl ?_)
    refine r_new (zs := [.bool false, .slice none 0 0]) (us := [b1, m1]) rfl (fun _ => rfl) rfl rfl (ones2 o1 o2) ?_
    intro w_3 g9 k_3 hs_3 hg9
    have hsg9 : w.heap.size ≤ g9 := Nat.le_trans k.size hs_3
    have ne_g_g9 : g ≠ g9 := fun e => by have := hg.lt; omega
    clear hs_3
    replace hS := hS.to k_3
    replace hg := hg.to k_3
    replace h1 := h1.to k_3
    replace k := k.trans k_3
    clear k_3
    obtain ⟨_, _, ⟨rfl, n, hn, hzn⟩ | ⟨rfl, hbad⟩⟩ := h1
    · skip
      repeat (first | refine r_load_all rfl hg9 rfl ?_ | refine wp_seq_region ?_ | refine wp_seq_seq ?_ | refine wp_region ?_ | refine r_move (by conv => (lhs; whnf)) ?_ | refine r_assign (by conv => (lhs; whnf)) ?_ | refine r_nil ?_ | refine q_then ?_ | refine wp_skip ?_ | refine r_not rfl ?_ | refine wp_cond_false rfl ?_)
      refine r_call (zwhole_c hS hzn) rfl ?_
      rintro v_4 w_4 ⟨k_4, m2, m3, rfl, h2, h3⟩
      replace hS := hS.to k_4
      replace hg := hg.to k_4
      replace hg9 := hg9.to k_4
      replace k := k.trans k_4
      clear k_4
      skip
      refine r_store4 rfl rfl hg rfl rfl h2.one rfl h3.one ?_
      intro w_5 k_5 h_5
      replace hS := hS.to k_5
      replace hg9 := hg9.wr k_5 (by omega)
      replace h2 := h2.wrT k_5 hg (by decide)
      replace h3 := h3.wrT k_5 hg (by decide)
      replace k : Ext w w_5 := k.past k_5 hsg
      replace hg := h_5
      clear h_5 k_5
      repeat (first | refine r_assign (by conv => (lhs; whnf)) ?_ | refine r_nil ?_ | refine q_then ?_ | refine wp_ret ?_)
      exact end2 rfl (resV_agg (by conv => (lhs; whnf)) hg rfl) (resV_tmp (by conv => (lhs; whnf))) ⟨k, .inl ⟨(n : Rat), _, (rstr_none hns _).2 ⟨rfl, hn⟩, rfl, m2, m3, rfl, h2, h3⟩⟩
    · skip
      repeat (first | refine wp_seq_region ?_ | refine wp_seq_seq ?_ | refine wp_region ?_ | refine r_move (by conv => (lhs; whnf)) ?_ | refine r_assign (by conv => (lhs; whnf)) ?_ | refine r_nil ?_ | refine q_then ?_ | refine r_not rfl ?_ | refine wp_cond_true rfl ?_)
      refine r_build0 (cs := [.bool false, .slice none 0 0, .bool false, .slice none 0 0]) rfl ?_
      refine r_store4 rfl (by conv => (lhs; whnf)) hg rfl rfl rfl rfl rfl ?_
      intro w_4 k_4 h_4
      replace hS := hS.to k_4
      replace k : Ext w w_4 := k.past k_4 hsg
      replace hg := h_4
      clear h_4 k_4
      repeat (first | refine r_assign (by conv => (lhs; whnf)) ?_ | refine r_nil ?_ | refine q_then ?_ | refine wp_ret ?_ | refine q_then_ret ?_)
      exact end2 rfl (resV_agg (by conv => (lhs; whnf)) hg rfl) (resV_tmp (by conv => (lhs; whnf))) ⟨k, .inr ⟨fun q hq => hbad _ ((rstr_none hns q).1 hq).2, rfl⟩⟩
end Go.Proofs.YtpmnjjmngogkkaaGreatDoor
end

section
/- Decimal digits read by the program: whether bytes are digits, and what number they make. -/
set_option linter.unusedVariables false
set_option linter.unusedSimpArgs false
namespace Go.Proofs.YtpmnjjmngogkkaaGreatDoor
open Go Go.RowKit

abbrev tenDigits : List UInt8 := [48, 49, 50, 51, 52, 53, 54, 55, 56, 57]
theorem ten_contains (c : UInt8) : tenDigits.contains c = true ↔ Dig c := by
  have h := c.toNat_lt
  constructor
  · intro h
    simp only [List.contains_eq_mem, decide_eq_true_eq, List.mem_cons, List.not_mem_nil, or_false] at h
    rcases h with rfl | rfl | rfl | rfl | rfl | rfl | rfl | rfl | rfl | rfl <;> exact ⟨by decide, by decide⟩
  · rintro ⟨h1, h2⟩
    simp only [List.contains_eq_mem, decide_eq_true_eq, List.mem_cons, List.not_mem_nil, or_false]
    have e : ∀ k : UInt8, c.toNat = k.toNat → c = k := fun k hk => UInt8.toNat_inj.1 hk
    have : c.toNat = 48 ∨ c.toNat = 49 ∨ c.toNat = 50 ∨ c.toNat = 51 ∨ c.toNat = 52 ∨ c.toNat = 53 ∨ c.toNat = 54 ∨ c.toNat = 55 ∨ c.toNat = 56 ∨ c.toNat = 57 := by omega
    rcases this with h | h | h | h | h | h | h | h | h | h
    · exact .inl (e 48 h)
    · exact .inr (.inl (e 49 h))
    · exact .inr (.inr (.inl (e 50 h)))
    · exact .inr (.inr (.inr (.inl (e 51 h))))
    · exact .inr (.inr (.inr (.inr (.inl (e 52 h)))))
    · exact .inr (.inr (.inr (.inr (.inr (.inl (e 53 h))))))
    · exact .inr (.inr (.inr (.inr (.inr (.inr (.inl (e 54 h)))))))
    · exact .inr (.inr (.inr (.inr (.inr (.inr (.inr (.inl (e 55 h))))))))
    · exact .inr (.inr (.inr (.inr (.inr (.inr (.inr (.inr (.inl (e 56 h)))))))))
    · exact .inr (.inr (.inr (.inr (.inr (.inr (.inr (.inr (.inr (e 57 h)))))))))
theorem dropW_nil {p : UInt8 → Bool} : ∀ {l : List UInt8}, l.dropWhile p = [] ↔ ∀ x ∈ l, p x = true
  | [] => by simp
  | c :: r => by
    rw [List.dropWhile_cons]
    split
    · rename_i h
      rw [dropW_nil]
      simp [h]
    · rename_i h
      constructor
      · intro e; cases e
      · intro e; exact absurd (e c (List.mem_cons_self ..)) h
theorem trim_nil (s : List UInt8) : Lib.trimS s tenDigits = [] ↔ ∀ c ∈ s, Dig c := by
  unfold Lib.trimS Lib.trimLeftS Lib.trimRightS
  rw [dropW_nil]
  constructor
  · intro h
    have h2 : ∀ c ∈ s.reverse.dropWhile (tenDigits.contains ·), Dig c := fun c hc => (ten_contains c).1 (h c (List.mem_reverse.2 hc))
    have h3 : s.reverse.dropWhile (tenDigits.contains ·) = [] := by
      cases hd : s.reverse.dropWhile (tenDigits.contains ·) with
      | nil => rfl
      | cons c r =>
        exfalso
        have h4 : tenDigits.contains c = true := (ten_contains c).2 (h2 c (by rw [hd]; exact List.mem_cons_self ..))
        have h5 := List.head?_dropWhile_not (tenDigits.contains ·) s.reverse
        rw [hd] at h5
        simp only [List.head?_cons] at h5
        rw [h4] at h5
        cases h5
    intro c hc
    exact (ten_contains c).1 (dropW_nil.1 h3 c (List.mem_reverse.2 hc))
  · intro h c hc
    have h1 := List.mem_reverse.1 hc
    exact (ten_contains c).2 (h c (List.mem_reverse.1 ((List.dropWhile_sublist _).subset h1)))
theorem strTrim_c {w : World} {s : List UInt8} (hl : s.length ≤ 9223372036854775807) :
    Gives Tryz.prog 155 [strV s, strV tenDigits] w fun v' w' => v' = strV (Lib.trimS s tenDigits) ∧ Ext w w' :=
  Calls.mono (Any.strings_Trim_laid Tryz.lays160 (by kernel_rfl) ⟨s.toArray⟩ ⟨tenDigits.toArray⟩ w (by rw [size_str]; exact hl) (by decide) (ascii_of_all (by decide))) fun e w' ⟨he, hw⟩ => ⟨_, he, rfl, .of_below hw⟩
theorem isDigits_c {w : World} {s : List UInt8} (hl : s.length ≤ 9223372036854775807) :
    Gives Tryz.prog 113 [strV s] w fun v' w' => v' = .bool (tst (DecL s)) ∧ Ext w w' := by
  have hbd : ¬ (s = [] ∨ (s.head? = some 48 ∧ 1 < s.length)) → (DecL s ↔ ∀ c ∈ s, Dig c) := by
    intro h
    refine ⟨fun h2 => h2.2.1, fun h2 => ⟨fun e => h (.inl e), h2, fun h3 => ?_⟩⟩
    have h4 : ¬ 1 < s.length := fun h4 => h (.inr ⟨h3, h4⟩)
    have h5 : s ≠ [] := fun e => h (.inl e)
    have := List.length_pos_iff.2 h5
    omega
  refine gives_of Tryz.func113 rfl rfl rfl ?_
  repeat (first | refine wp_seq_region ?_ | refine wp_seq_seq ?_ | refine wp_region ?_ | refine r_move (by conv => (lhs; whnf)) ?_ | refine r_assign (by conv => (lhs; whnf)) ?_ | refine r_nil ?_)
  refine r_eqlS (b := []) rfl rfl ?_
  repeat (first | refine r_move (by conv => (lhs; whnf)) ?_)
  refine r_mid [(5, 14)] (fun ρ w' => ρ 14 = .bool (tst (s = [] ∨ (s.head? = some 48 ∧ 1 < s.length))) ∧ w' = w) ?_ ?_
  · refine r_guard_split rfl rfl ?_ ?_ <;> intro hnil
    · repeat (first | refine r_nil ?_ | refine q_then ?_ | refine r_guard_skip rfl rfl rfl ?_ | refine r_guard_undef rfl rfl ?_ | refine r_pick_true rfl (by conv => (lhs; whnf)) ?_)
      exact ⟨by (repeat (first | refine agree_upd rfl ?_ | exact agree_over | refine agree_sub rfl ?_ | exact agree_refl | refine agree_base rfl ?_ | refine agree_base' rfl ?_)), by rw [tst_true (Or.inl hnil)]; rfl, rfl⟩
    · obtain ⟨c, hc⟩ : ∃ c, s[0]? = some c := ⟨s[0]'(List.length_pos_iff.2 hnil), List.getElem?_eq_getElem _⟩
      have hc48 : (c.toNat : Int) = 48 ↔ s.head? = some 48 := by
        rw [List.head?_eq_getElem?, hc]
        constructor
        · intro h
          congr 1
          apply UInt8.toNat_inj.1
          show c.toNat = 48
          omega
        · intro h
          have := Option.some.inj h
          subst this
          rfl
      repeat (first | refine r_indexS 0 rfl rfl rfl hc ?_ | refine r_move (by conv => (lhs; whnf)) ?_ | refine r_guard_run rfl rfl ?_ | refine r_eql rfl rfl ?_)
      refine r_guard_split rfl rfl ?_ ?_ <;> intro h48
      · repeat (first | refine r_lenS rfl ?_ | refine r_move (by conv => (lhs; whnf)) ?_ | refine r_nil ?_ | refine q_then ?_ | refine r_guard_run rfl rfl ?_ | refine r_pick_true rfl (by conv => (lhs; whnf)) ?_ | refine r_pick_false rfl (by conv => (lhs; whnf)) ?_ | refine r_gtr rfl rfl ?_)
        refine ⟨by (repeat (first | refine agree_upd rfl ?_ | exact agree_over | refine agree_sub rfl ?_ | exact agree_refl | refine agree_base rfl ?_ | refine agree_base' rfl ?_)), congrArg Value.bool (tst_congr ?_), rfl⟩
        exact ⟨fun h => Or.inr ⟨hc48.1 h48, by omega⟩, fun h => h.elim (fun h => absurd h hnil) fun h => by omega⟩
      · repeat (first | refine r_nil ?_ | refine q_then ?_ | refine r_guard_run rfl rfl ?_ | refine r_guard_skip rfl rfl rfl ?_ | refine r_pick_false rfl (by conv => (lhs; whnf)) ?_)
        refine ⟨by (repeat (first | refine agree_upd rfl ?_ | exact agree_over | refine agree_sub rfl ?_ | exact agree_refl | refine agree_base rfl ?_ | refine agree_base' rfl ?_)), ?_, rfl⟩
        rw [tst_false (show ¬ (s = [] ∨ (s.head? = some 48 ∧ 1 < s.length)) from fun h => h.elim hnil fun h => h48 (hc48.2 h.1))]
        rfl
  rintro u1 w1 ⟨h14, rfl⟩
  refine wp_learn 14 h14 ?_
  clear h14
  skip
  try refine wp_seq_cond ?_
  refine wp_cond_dec rfl ?_ ?_ <;> intro hbad
  · repeat (first | refine wp_seq_region ?_ | refine wp_region ?_ | refine r_assign (by conv => (lhs; whnf)) ?_ | refine r_nil ?_ | refine q_then ?_ | refine wp_ret ?_ | refine q_then_ret ?_)
    refine end_tmp rfl (by conv => (lhs; whnf)) ⟨?_, .refl⟩
    rw [tst_false]
    rintro ⟨h1, h2, h3⟩
    rcases hbad with h | h
    · exact h1 h
    · have := h3 h.1; omega
  · repeat (first | refine wp_seq_region ?_ | refine wp_region ?_ | refine r_move (by conv => (lhs; whnf)) ?_ | refine wp_skip ?_)
    refine r_call (strTrim_c hl) rfl ?_
    rintro v2 w2 ⟨rfl, k2⟩
    refine r_eqlS (b := []) rfl rfl ?_
    repeat (first | refine r_assign (by conv => (lhs; whnf)) ?_ | refine r_nil ?_ | refine q_then ?_ | refine wp_ret ?_)
    refine end_tmp rfl (by conv => (lhs; whnf)) ⟨?_, k2⟩
    rw [tst_congr (trim_nil s), ← tst_congr (hbd hbad)]

theorem decFrom_digs : ∀ {l : List UInt8} {a : Nat}, (∀ c ∈ l, Dig c) → Lib.decFrom a l = some (l.foldl (fun a c => 10 * a + (c.toNat - 48)) a)
  | [], a, _ => rfl
  | c :: r, a, h => by
    have h1 := h c (List.mem_cons_self ..)
    unfold Dig at h1
    have h2 := decFrom_digs (l := r) (a := a * 10 + (c.toNat - 48)) fun x hx => h x (List.mem_cons_of_mem _ hx)
    unfold Lib.decFrom Lib.digitVal
    rw [if_pos h1]
    simp only [List.foldl_cons]
    rw [h2, Nat.mul_comm a]
theorem atoi_digs {l : List UInt8} (hne : l ≠ []) (h : ∀ c ∈ l, Dig c) : Lib.atoi l = some (digV l : Int) := by
  cases l with
  | nil => exact absurd rfl hne
  | cons c r =>
    have h1 := h c (List.mem_cons_self ..)
    unfold Dig at h1
    have e45 : (c == 45) = false := by
      rw [beq_eq_false_iff_ne]
      rintro rfl
      exact absurd h1.1 (by decide)
    have e43 : (c == 43) = false := by
      rw [beq_eq_false_iff_ne]
      rintro rfl
      exact absurd h1.1 (by decide)
    have e : Lib.atoi (c :: r) = if (c == 45) = true then (Lib.decNat r).map fun (m : Nat) => -(m : Int) else if (c == 43) = true then (Lib.decNat r).map fun (m : Nat) => (m : Int) else (Lib.decNat (c :: r)).map fun (m : Nat) => (m : Int) := rfl
    have e2 : Lib.decNat (c :: r) = Lib.decFrom 0 (c :: r) := rfl
    rw [e, e45, e43, e2, decFrom_digs h]
    rfl
theorem ext_bytes {w : World} {T : TypeId} {t : ByteArray} : Ext w (Lib.bytesWorld w T t) := .of_below (Lib.bytesWorld_below w T t)
theorem atoi_c {w : World} {l : List UInt8} (hne : l ≠ []) (h : ∀ c ∈ l, Dig c) (hl : l.length ≤ 18) :
    Gives Tryz.prog 156 [strV l] w fun v' w' => v' = .tuple #[.int .i64 (digV l : Int), .nilIface] ∧ Ext w w' :=
  Calls.mono (Tryz.strconv_Atoi ⟨l.toArray⟩ (digV l : Int) (by rw [size_str]; exact hl) (atoi_digs hne h) w) fun e w' ⟨he, t, hw⟩ => ⟨_, he, rfl, hw ▸ ext_bytes⟩
end Go.Proofs.YtpmnjjmngogkkaaGreatDoor
end

section
/- The program reads integers. -/
set_option linter.unusedVariables false
set_option linter.unusedSimpArgs false
namespace Go.Proofs.YtpmnjjmngogkkaaGreatDoor
open Go Go.RowKit

theorem parsed_c {S : Nat → Prop} {w : World} {s : List UInt8} (hS : Up S w) (hd : ∀ c ∈ s, Dig c) (hl : s.length ≤ 1000000) :
    Gives Tryz.prog 114 [strV s] w fun v' w' => Ext w w' ∧ NatV S 127 .u32 w' v' (digV s) := by
  refine gives_of Tryz.func114 rfl rfl rfl ?_
  repeat (first | refine wp_seq_region ?_ | refine wp_region ?_ | refine r_assign (by conv => (lhs; whnf)) ?_ | refine r_nil ?_ | refine q_then ?_)
  try refine wp_seq_block ?_
  refine wp_for ((0, 0) :: [(0, 0), (3, 28)]) (fun k ρ w' => ∃ (L : List Nat) (v : Value), k ≤ s.length ∧ ρ 0 = strV (s.take k) ∧ ρ 3 = v ∧ (0 < k → 9 * L.length + k = s.length) ∧ L.length ≤ s.length ∧ digV (s.drop k) = nval L ∧ Digs L ∧ Ext w w' ∧ Own w.heap.size 127 1 w' v L.length (L.map fun d : Nat => .int .u32 d)) s.length ?_ ?_
  · exact ⟨[], _, Nat.le_refl _, by rw [List.take_of_length_le (Nat.le_refl _)]; rfl, rfl, by simp, by simp, by rw [List.drop_of_length_le (Nat.le_refl _)]; rfl, digs_nil, .refl, own_nil⟩
  rintro k u w1 ⟨L, v, hk, h0, h3, hcnt, hLl, hval, hLd, k1, ho⟩
  refine wp_learn 0 h0 (wp_learn 3 h3 ?_)
  clear h0 h3
  have htk : (s.take k).length = k := by rw [List.length_take]; omega
  repeat (first | refine r_lenS rfl ?_ | refine wp_seq_region ?_ | refine wp_seq_seq ?_ | refine wp_region ?_ | refine r_move (by conv => (lhs; whnf)) ?_ | refine r_nil ?_ | refine q_then ?_ | refine r_gtr rfl rfl ?_)
  try refine wp_seq_cond ?_
  refine wp_cond_dec rfl ?_ ?_ <;> intro hc
  · obtain ⟨cut, hcut⟩ : ∃ cut, cut = k - 9 := ⟨_, rfl⟩
    have hmax : max (0 : Int) (((s.take k).length : Int) - 9) = (cut : Int) := by omega
    obtain ⟨ch, hch⟩ : ∃ ch, ch = (s.take k).drop cut := ⟨_, rfl⟩
    have hchl : ch.length = k - cut := by rw [hch, List.length_drop, htk]
    have hchd : ∀ c ∈ ch, Dig c := fun c hc => hd c (List.mem_of_mem_take (List.mem_of_mem_drop (hch ▸ hc)))
    have hchne : ch ≠ [] := by intro e; rw [e] at hchl; simp at hchl; omega
    have hdv := digV_lt hchd
    have hdv9 : digV ch < 1000000000 := by
      have : 10 ^ ch.length ≤ 10 ^ 9 := Nat.pow_le_pow_right (by omega) (by omega)
      omega
    have hsd : s.drop cut = ch ++ s.drop k := by
      rw [hch]
      conv => lhs; rw [← List.take_append_drop k s]
      rw [List.drop_append_of_le_length (by omega)]
    repeat (first | refine r_lenS rfl ?_ | refine wp_seq_region ?_ | refine wp_region ?_ | refine r_move (by conv => (lhs; whnf)) ?_ | refine r_assign (by conv => (lhs; whnf)) ?_ | refine r_nil ?_ | refine q_then ?_ | refine wp_block_seq ?_ | refine wp_skip ?_ | refine r_subI rfl rfl (by omega) (by omega) ?_ | refine r_max rfl rfl ?_)
    rw [hmax]
    repeat (first | refine r_sliceS_low cut rfl rfl rfl (by omega) ?_)
    rw [← hch]
    refine r_call (atoi_c hchne hchd (by omega)) rfl ?_
    rintro v2 w2 ⟨rfl, k2⟩
    repeat (first | refine wp_seq_region ?_ | refine wp_region ?_ | refine r_move (by conv => (lhs; whnf)) ?_ | refine r_assign (by conv => (lhs; whnf)) ?_ | refine r_nil ?_ | refine r_extract rfl rfl ?_ | refine r_conv rfl (wrap_u32 (by omega) (by omega)) ?_)
    refine r_lit1 (by conv => (lhs; whnf)) rfl ?_
    intro w3 g k3 hg hgs
    refine r_append1 (by conv => (lhs; whnf)) (own_to (own_to ho k2) k3) rfl hg (by omega) rfl (fun u hu => by rw [List.mem_singleton.1 hu]; rfl) (by unfold maxLen; omega) (by omega) (by have := k1.size; have := k2.size; have := k3.size; omega) ?_
    intro v4 w4 ho4 k4
    have hlen : (L ++ [digV ch]).length = L.length + 1 := by rw [List.length_append]; rfl
    repeat (first | refine r_sliceS_high cut rfl rfl rfl (by omega) ?_ | refine wp_region ?_ | refine r_move (by conv => (lhs; whnf)) ?_ | refine r_assign (by conv => (lhs; whnf)) ?_ | refine r_nil ?_ | refine q_then ?_ | refine q_block ?_)
    refine ⟨by (repeat (first | refine agree_upd rfl ?_ | exact agree_over | refine agree_sub rfl ?_ | exact agree_refl | refine agree_base rfl ?_ | refine agree_base' rfl ?_)), cut, by omega, L ++ [digV ch], v4, by omega, ?_, rfl, by rw [hlen]; omega, by rw [hlen]; omega, ?_, hLd.append (Digs.cons hdv9 digs_nil), ?_, by simpa using ho4⟩
    · show strV ((s.take k).take cut) = _
      rw [List.take_take, Nat.min_eq_left (by omega)]
    · rw [hsd, digV_append, hval, nval_snoc, List.length_drop, show s.length - k = 9 * L.length by have := hcnt (by omega); omega, ← pow_nine, Nat.mul_comm (digV ch)]
      omega
    · exact Keeps.later ((k1.trans k2).trans k3) k4 fun i hi _ e => by have := (ho.lt i e.symm).1; omega
  · obtain rfl : k = 0 := by omega
    rw [List.drop_zero] at hval
    repeat (first | refine wp_seq_region ?_ | refine wp_region ?_ | refine r_move (by conv => (lhs; whnf)) ?_ | refine wp_exit ?_)
    refine r_call (trim_c (S := S) (v := v) (l := L) (Row.of_own ho hS) hLd) rfl ?_
    rintro v2 w2 ⟨rfl, h2⟩
    repeat (first | refine r_assign (by conv => (lhs; whnf)) ?_ | refine r_nil ?_ | refine q_then ?_ | refine wp_ret ?_)
    refine end_tmp rfl (by conv => (lhs; whnf)) ⟨k1, ?_⟩
    rw [hval]
    exact h2

theorem has_neg (s : List UInt8) : Lib.hasPrefix s [45] = tst (NegS s) := by
  unfold Lib.hasPrefix NegS
  cases s with
  | nil => rw [tst_false (by simp)]; rfl
  | cons c r =>
    by_cases h : c = 45
    · subst h
      rw [tst_true (by rfl)]
      simp [List.isPrefixOf]
    · rw [tst_false (by simpa using h)]
      simp [List.isPrefixOf]
      exact fun e => h e.symm
theorem trim_neg (s : List UInt8) : Lib.trimPrefix s [45] = Dgs s := by
  unfold Lib.trimPrefix Dgs
  rw [has_neg]
  by_cases h : NegS s
  · rw [tst_true h, if_pos h]; rfl
  · rw [tst_false h, if_neg h]; rfl
theorem cutPrefix_c {w : World} {s : List UInt8} :
    Gives Tryz.prog 112 [strV s, strV [45]] w fun v' w' => v' = .tuple #[strV (Dgs s), .bool (tst (NegS s))] ∧ w' = w :=
  Calls.mono (Tryz.strings_CutPrefix ⟨s.toArray⟩ ⟨[45].toArray⟩ w) fun e w' ⟨he, hw⟩ => ⟨_, he, by
    show Value.tuple #[.string ⟨(Lib.trimPrefix s [45]).toArray⟩, .bool (Lib.hasPrefix s [45])] = _
    rw [trim_neg, has_neg], hw⟩

set_option maxHeartbeats 1000000 in
theorem iparse_c {S : Nat → Prop} {w : World} {s : List UInt8} (hS : Up S w) (hl : s.length ≤ 140737488351232) :
    Gives Tryz.prog 54 [strV s] w fun v' w' => Ext w w' ∧
      ((35000 < s.length ∧ v' = .tuple #[.agg #[.bool false, .slice none 0 0], .int .i64 2]) ∨ (s.length ≤ 35000 ∧ (∀ z, s ≠ Lib.itoa z) ∧ v' = .tuple #[.agg #[.bool false, .slice none 0 0], .int .i64 10]) ∨ (s.length ≤ 35000 ∧ ∃ z, s = Lib.itoa z ∧ ITried S w' v' z)) := by
  have hDl := dgs_le s
  refine gives_of Tryz.func54 rfl rfl rfl ?_
  repeat (first | refine wp_seq_region ?_ | refine wp_region ?_)
  refine r_alloc (cs := [.bool false, .slice none 0 0]) rfl ?_
  intro w1 g k1 hg hgs
  repeat (first | refine r_lenS rfl ?_ | refine wp_seq_region ?_ | refine wp_seq_seq ?_ | refine wp_region ?_ | refine r_move (by conv => (lhs; whnf)) ?_ | refine r_assign (by conv => (lhs; whnf)) ?_ | refine r_nil ?_ | refine q_then ?_ | refine r_gtr rfl rfl ?_)
  try refine wp_seq_cond ?_
  refine wp_cond_dec rfl ?_ ?_ <;> intro hlong
  · repeat (first | refine wp_seq_region ?_ | refine wp_region ?_)
    refine r_build0 (cs := [.bool false, .slice none 0 0]) rfl ?_
    refine r_store2 rfl (by conv => (lhs; whnf)) hg rfl rfl ?_
    intro w2 k2 hg2
    repeat (first | refine r_assign (by conv => (lhs; whnf)) ?_ | refine r_nil ?_ | refine q_then ?_ | refine wp_ret ?_ | refine q_then_ret ?_)
    exact end2 rfl (resV_agg (by conv => (lhs; whnf)) hg2 rfl) (resV_tmp (by conv => (lhs; whnf))) ⟨k1.past k2 hgs, .inl ⟨by omega, rfl⟩⟩
  · repeat (first | refine wp_seq_region ?_ | refine wp_region ?_ | refine r_move (by conv => (lhs; whnf)) ?_ | refine wp_skip ?_)
    refine r_call cutPrefix_c rfl ?_
    rintro v2 w2 ⟨rfl, rfl⟩
    repeat (first | refine wp_seq_region ?_ | refine wp_seq_seq ?_ | refine wp_region ?_ | refine r_move (by conv => (lhs; whnf)) ?_ | refine r_assign (by conv => (lhs; whnf)) ?_ | refine r_nil ?_ | refine r_extract rfl rfl ?_)
    refine r_call (isDigits_c (s := Dgs s) (by omega)) rfl ?_
    rintro v3 w3 ⟨rfl, k3⟩
    repeat (first | refine r_move (by conv => (lhs; whnf)) ?_ | refine r_notB rfl ?_)
    have hbad : (¬ DecL (Dgs s) ∨ (NegS s ∧ Dgs s = [48])) ↔ ∀ z, s ≠ Lib.itoa z := by
      constructor
      · rintro (h | ⟨h1, h2⟩) z hz
        · exact h ((num_iff s).1 ⟨z, hz⟩).1
        · exact ((num_iff s).1 ⟨z, hz⟩).2 h1 (by rw [h2]; rfl)
      · intro h
        by_cases hd : DecL (Dgs s)
        · right
          have h2 : ¬ (NegS s → (Dgs s).head? ≠ some 48) := fun h2 => h _ (num_val hd h2)
          by_cases hn : NegS s
          · refine ⟨hn, ?_⟩
            have h3 : (Dgs s).head? = some 48 := Classical.byContradiction fun h3 => h2 fun _ => h3
            have h4 := hd.2.2 h3
            match hds : Dgs s, h3, h4 with
            | [c], h3, _ => simp at h3; rw [h3]
          · exact absurd (fun h3 => absurd h3 hn) h2
        · exact .inl hd
    refine r_mid [(18, 24)] (fun ρ w' => ρ 24 = .bool (tst (∀ z, s ≠ Lib.itoa z)) ∧ w' = w3) ?_ ?_
    · refine r_guard_split rfl rfl ?_ ?_ <;> intro hnd
      · repeat (first | refine r_nil ?_ | refine q_then ?_ | refine r_guard_skip rfl rfl rfl ?_ | refine r_guard_undef rfl rfl ?_ | refine r_pick_true rfl (by conv => (lhs; whnf)) ?_)
        exact ⟨by (repeat (first | refine agree_upd rfl ?_ | exact agree_over | refine agree_sub rfl ?_ | exact agree_refl | refine agree_base rfl ?_ | refine agree_base' rfl ?_)), by rw [tst_true (hbad.1 (Or.inl hnd))]; rfl, rfl⟩
      · repeat (first | refine r_move (by conv => (lhs; whnf)) ?_ | refine r_guard_run rfl rfl ?_)
        refine r_guard_split rfl rfl ?_ ?_ <;> intro hn
        · repeat (first | refine r_move (by conv => (lhs; whnf)) ?_ | refine r_guard_run rfl rfl ?_)
          refine r_eqlS (b := [48]) rfl rfl ?_
          repeat (first | refine r_nil ?_ | refine q_then ?_ | refine r_guard_run rfl rfl ?_ | refine r_pick_true rfl (by conv => (lhs; whnf)) ?_ | refine r_pick_false rfl (by conv => (lhs; whnf)) ?_)
          refine ⟨by (repeat (first | refine agree_upd rfl ?_ | exact agree_over | refine agree_sub rfl ?_ | exact agree_refl | refine agree_base rfl ?_ | refine agree_base' rfl ?_)), congrArg Value.bool (tst_congr ?_), rfl⟩
          rw [← hbad]
          exact ⟨fun h => Or.inr ⟨hn, h⟩, fun h => h.elim (fun h => absurd h hnd) fun h => h.2⟩
        · repeat (first | refine r_nil ?_ | refine q_then ?_ | refine r_guard_run rfl rfl ?_ | refine r_guard_skip rfl rfl rfl ?_ | refine r_pick_false rfl (by conv => (lhs; whnf)) ?_)
          refine ⟨by (repeat (first | refine agree_upd rfl ?_ | exact agree_over | refine agree_sub rfl ?_ | exact agree_refl | refine agree_base rfl ?_ | refine agree_base' rfl ?_)), ?_, rfl⟩
          rw [tst_false (show ¬ ∀ z, s ≠ Lib.itoa z from fun h => (hbad.2 h).elim hnd fun h => hn h.1)]
          rfl
    rintro u4 w4 ⟨h24, rfl⟩
    refine wp_learn 24 h24 ?_
    clear h24
    have hg4 := hg.to k3
    skip
    try refine wp_seq_cond ?_
    refine wp_cond_dec rfl ?_ ?_ <;> intro hb
    · repeat (first | refine wp_seq_region ?_ | refine wp_region ?_)
      refine r_build0 (cs := [.bool false, .slice none 0 0]) rfl ?_
      refine r_store2 rfl (by conv => (lhs; whnf)) hg4 rfl rfl ?_
      intro w5 k5 hg5
      repeat (first | refine r_assign (by conv => (lhs; whnf)) ?_ | refine r_nil ?_ | refine q_then ?_ | refine wp_ret ?_ | refine q_then_ret ?_)
      exact end2 rfl (resV_agg (by conv => (lhs; whnf)) hg5 rfl) (resV_tmp (by conv => (lhs; whnf))) ⟨(k1.trans k3).past k5 hgs, .inr (.inl ⟨by omega, hb, rfl⟩)⟩
    · have hgood : DecL (Dgs s) ∧ (NegS s → (Dgs s).head? ≠ some 48) := by
        refine (num_iff s).1 (Classical.byContradiction fun h => hb fun z hz => h ⟨z, hz⟩)
      have hS4 := hS.to (k1.trans k3)
      repeat (first | refine wp_seq_region ?_ | refine wp_region ?_ | refine r_move (by conv => (lhs; whnf)) ?_ | refine wp_skip ?_)
      refine r_call (parsed_c hS4 hgood.1.2.1 (by omega)) rfl ?_
      rintro v5 w5 ⟨k5, h5⟩
      refine r_call (signed_c (p := NegS s) (n := digV (Dgs s)) (numV s) h5 ?_ ?_) rfl ?_
      · unfold numV; split <;> omega
      · unfold numV
        split
        · rename_i h; exact ⟨fun h2 => ⟨h, by omega⟩, fun h2 => by omega⟩
        · rename_i h; exact ⟨fun h2 => by omega, fun h2 => absurd h2.1 h⟩
      rintro v6 w6 ⟨k6, h6⟩
      repeat (first | refine r_func ?_)
      refine r_call (iattempt_c ((hS4.to k5).to k6) h6) rfl ?_
      rintro v7 w7 ⟨k7, r, e, rfl, hor⟩
      repeat (first | refine r_extract rfl rfl ?_)
      have k' := (((k1.trans k3).trans k5).trans k6).trans k7
      have hg7 := ((hg4.to k5).to k6).to k7
      rcases hor with ⟨hf, rfl, m, rfl, hm⟩ | ⟨hf, rfl, m, rfl, hm⟩
      · refine r_store2 rfl rfl hg7 rfl hm.one ?_
        intro w8 k8 hg8
        repeat (first | refine r_assign (by conv => (lhs; whnf)) ?_ | refine r_nil ?_ | refine q_then ?_ | refine wp_ret ?_)
        exact end2 rfl (resV_agg (by conv => (lhs; whnf)) hg8 rfl) (resV_tmp (by conv => (lhs; whnf))) ⟨Keeps.past k' k8 hgs, .inr (.inr ⟨by omega, _, num_val hgood.1 hgood.2, _, _, rfl, .inl ⟨hf, rfl, m, rfl, hm.wrT k8 hg7 (by decide)⟩⟩)⟩
      · refine r_store2 rfl rfl hg7 rfl hm.one ?_
        intro w8 k8 hg8
        repeat (first | refine r_assign (by conv => (lhs; whnf)) ?_ | refine r_nil ?_ | refine q_then ?_ | refine wp_ret ?_)
        exact end2 rfl (resV_agg (by conv => (lhs; whnf)) hg8 rfl) (resV_tmp (by conv => (lhs; whnf))) ⟨Keeps.past k' k8 hgs, .inr (.inr ⟨by omega, _, num_val hgood.1 hgood.2, _, _, rfl, .inr ⟨hf, rfl, m, rfl, hm.wrT k8 hg7 (by decide)⟩⟩)⟩
end Go.Proofs.YtpmnjjmngogkkaaGreatDoor
end

section
/- A string cut at its first stroke. -/
set_option linter.unusedVariables false
set_option linter.unusedSimpArgs false
namespace Go.Proofs.YtpmnjjmngogkkaaGreatDoor
open Go Go.RowKit

theorem cut_idx (l : List UInt8) (c : UInt8) : (Lib.indexByte l c = -1 ∧ c ∉ l) ∨ ∃ a b, l = a ++ c :: b ∧ c ∉ a ∧ Lib.indexByte l c = (a.length : Int) := by
  induction l with
  | nil => exact .inl ⟨rfl, by simp⟩
  | cons x l ih =>
    unfold Lib.indexByte
    by_cases hx : x = c
    · subst hx
      exact .inr ⟨[], l, rfl, by simp, by simp⟩
    · have hb : (x == c) = false := by simpa using hx
      rcases ih with ⟨h1, h2⟩ | ⟨a, b, rfl, h2, h3⟩
      · refine .inl ⟨by simp [hb, h1], ?_⟩
        intro h
        rcases List.mem_cons.1 h with h | h
        · exact hx h.symm
        · exact h2 h
      · refine .inr ⟨x :: a, b, rfl, ?_, ?_⟩
        · intro h
          rcases List.mem_cons.1 h with h | h
          · exact hx h.symm
          · exact h2 h
        · rw [h3]
          have : ((a.length : Int) == -1) = false := by simp
          simp [hb, this]
theorem r_lenE {P : Program} {n : Nat} {Q : Post} {ρ : Fr} {w : World} {all rest : List Oper} {d : Tmp} {ty : TypeId} {pos : String} {aft : Array Edge} {t : TypeId} [st : StrT P t] {x : Operand} {l : List UInt8} (m : Int) (hv : ev ρ x = strV l) (hm : (l.length : Int) = m)
    (h : WpR P n all Q rest (upd ρ d (.int .i64 m)) w) : WpR P n all Q (⟨some d, .call ⟨.builtin .len, #[x], #[t]⟩, ty, pos, aft, none⟩ :: rest) ρ w := r_lenS hv (by rw [hm]; exact h)
theorem indexByte_c {w : World} {s : List UInt8} :
    Gives Tryz.prog 208 [strV s, .int .u8 47] w fun v' w' => v' = .int .i64 (Lib.indexByte s 47) ∧ w' = w :=
  Calls.mono (Tryz.stringslite_IndexByte ⟨s.toArray⟩ 47 w) fun e w' ⟨he, hw⟩ => ⟨_, he, rfl, hw⟩
theorem sindex_c {w : World} {s : List UInt8} (hl : s.length ≤ 9223372036854775806) :
    Gives Tryz.prog 186 [strV s, strV [47]] w fun v' w' => v' = .int .i64 (Lib.indexByte s 47) ∧ w' = w := by
  refine gives_of Tryz.func186 rfl rfl rfl ?_
  repeat (first | refine r_lenE 1 rfl rfl ?_ | refine wp_seq_region ?_ | refine wp_seq_bseq ?_ | refine wp_region ?_ | refine r_move (by conv => (lhs; whnf)) ?_ | refine r_assign (by conv => (lhs; whnf)) ?_ | refine r_nil ?_ | refine wp_block_seq ?_ | refine r_guard_run rfl rfl ?_ | refine r_eql rfl rfl ?_ | refine r_guard_no rfl rfl (by omega) ?_)
  refine r_eqlS (a := [47]) (b := s) rfl rfl ?_
  repeat (first | refine r_assign (by conv => (lhs; whnf)) ?_ | refine r_nil ?_ | refine q_then ?_ | refine r_pick_false rfl (by conv => (lhs; whnf)) ?_)
  try refine wp_seq_cond ?_
  refine wp_cond_dec rfl ?_ ?_ <;> intro hc
  · have h47 : s = [47] := by simpa using hc.symm
    subst h47
    repeat (first | refine wp_seq_region ?_ | refine wp_region ?_ | refine r_assign (by conv => (lhs; whnf)) ?_ | refine r_nil ?_ | refine q_then ?_ | refine wp_ret ?_ | refine q_then_ret ?_ | refine q_block_ret ?_)
    exact end_tmp rfl (by conv => (lhs; whnf)) ⟨by rw [show Lib.indexByte [47] 47 = 0 from by simp [Lib.indexByte]], rfl⟩
  · repeat (first | refine r_indexS 0 rfl rfl rfl (c := 47) rfl ?_ | refine wp_seq_region ?_ | refine wp_region ?_ | refine r_move (by conv => (lhs; whnf)) ?_ | refine r_assign (by conv => (lhs; whnf)) ?_ | refine r_nil ?_ | refine q_then ?_ | refine r_eql rfl rfl ?_ | refine wp_cond_yes rfl (by omega) ?_)
    refine r_call (indexByte_c (s := s)) rfl ?_
    rintro v2 w2 ⟨rfl, rfl⟩
    repeat (first | refine r_assign (by conv => (lhs; whnf)) ?_ | refine r_nil ?_ | refine q_then ?_ | refine wp_ret ?_ | refine q_then_ret ?_ | refine q_block_ret ?_)
    exact end_tmp rfl (by conv => (lhs; whnf)) ⟨rfl, rfl⟩
/-- What a cut gives. -/
def CutR (v : Value) (s : List UInt8) : Prop := ((47 : UInt8) ∉ s ∧ v = .tuple #[strV s, strV [], .bool false]) ∨ ∃ a b, s = a ++ 47 :: b ∧ (47 : UInt8) ∉ a ∧ v = .tuple #[strV a, strV b, .bool true]
theorem slcut_c {w : World} {s : List UInt8} (hl : s.length ≤ 9223372036854775806) :
    Gives Tryz.prog 153 [strV s, strV [47]] w fun v' w' => Ext w w' ∧ CutR v' s := by
  refine gives_of Tryz.func153 rfl rfl rfl ?_
  repeat (first | refine wp_seq_region ?_ | refine wp_seq_seq ?_ | refine wp_region ?_ | refine r_move (by conv => (lhs; whnf)) ?_ | refine r_assign (by conv => (lhs; whnf)) ?_ | refine r_nil ?_)
  refine r_call (sindex_c hl) rfl ?_
  rintro v1 w1 ⟨rfl, rfl⟩
  repeat (first | refine wp_seq_region ?_ | refine wp_region ?_ | refine r_move (by conv => (lhs; whnf)) ?_ | refine r_assign (by conv => (lhs; whnf)) ?_ | refine r_nil ?_ | refine q_then ?_ | refine r_geq rfl rfl ?_)
  rcases cut_idx s 47 with ⟨h1, h2⟩ | ⟨a, b, rfl, h2, h3⟩
  · rw [h1]
    repeat (first | refine wp_seq_region ?_ | refine wp_region ?_ | refine r_move (by conv => (lhs; whnf)) ?_ | refine r_assign (by conv => (lhs; whnf)) ?_ | refine r_nil ?_ | refine q_then ?_ | refine wp_ret ?_ | refine wp_skip ?_ | refine wp_cond_no rfl (by omega) ?_)
    exact end3 rfl (resV_tmp (by conv => (lhs; whnf))) (resV_tmp (by conv => (lhs; whnf))) (resV_tmp (by conv => (lhs; whnf))) ⟨.refl, .inl ⟨h2, rfl⟩⟩
  · rw [h3]
    have hla : a.length + 1 ≤ (a ++ 47 :: b).length := by simp
    repeat (first | refine wp_seq_region ?_ | refine wp_cond_yes rfl (by omega) ?_)
    refine wp_drawn 10 (by kernel_rfl) (by kernel_rfl) ?_
    apply ob_step
    · intro x w1 k1 hd
      refine r_move (by conv => (lhs; whnf)) ?_
      refine r_nil ?_
      exact ob_eq
    apply ob_step
    · intro x w1 k1 hd
      refine r_move (by conv => (lhs; whnf)) ?_
      refine r_nil ?_
      exact ob_eq
    apply ob_step
    · intro x w1 k1 hd
      refine r_sliceS_high a.length rfl rfl rfl (by omega) ?_
      refine r_nil ?_
      exact ob_eq
    apply ob_step
    · intro x w1 k1 hd
      refine r_move (by conv => (lhs; whnf)) ?_
      refine r_nil ?_
      exact ob_eq
    apply ob_step
    · intro x w1 k1 hd
      refine r_move (by conv => (lhs; whnf)) ?_
      refine r_nil ?_
      exact ob_eq
    apply ob_step
    · intro x w1 k1 hd
      refine r_move (by conv => (lhs; whnf)) ?_
      refine r_nil ?_
      exact ob_eq
    apply ob_step
    · intro x w1 k1 hd
      refine r_lenE 1 rfl rfl ?_
      refine r_nil ?_
      exact ob_eq
    apply ob_step
    · intro x w1 k1 hd
      refine r_addI rfl rfl (by omega) (by omega) ?_
      refine r_nil ?_
      exact ob_eq
    apply ob_step
    · intro x w1 k1 hd
      refine r_sliceS_low (a.length + 1) rfl rfl rfl (by omega) ?_
      refine r_nil ?_
      exact ob_eq
    apply ob_step
    · intro x w1 k1 hd
      refine r_assign (by conv => (lhs; whnf)) ?_
      refine r_nil ?_
      exact ob_eq
    refine ob_nil (ob_end ?_)
    intro x w2 k2 _
    repeat (first | refine r_assign (by conv => (lhs; whnf)) ?_ | refine r_nil ?_ | refine q_then ?_ | refine wp_ret ?_ | refine q_then_ret ?_)
    refine end3 rfl (resV_tmp (by conv => (lhs; whnf))) (resV_tmp (by conv => (lhs; whnf))) (resV_tmp (by conv => (lhs; whnf))) ⟨k2, .inr ⟨a, b, rfl, h2, ?_⟩⟩
    rw [List.take_left' rfl, show a ++ 47 :: b = (a ++ [47]) ++ b by simp, List.drop_left' (by simp)]
theorem cut_c {w : World} {s : List UInt8} (hl : s.length ≤ 9223372036854775806) :
    Gives Tryz.prog 111 [strV s, strV [47]] w fun v' w' => Ext w w' ∧ CutR v' s := by
  refine gives_of Tryz.func111 rfl rfl rfl ?_
  repeat (first | refine wp_seq_region ?_ | refine wp_region ?_ | refine r_move (by conv => (lhs; whnf)) ?_ | refine r_assign (by conv => (lhs; whnf)) ?_ | refine r_nil ?_)
  refine r_call (slcut_c hl) rfl ?_
  rintro v1 w1 ⟨k1, h1⟩
  rcases h1 with ⟨h1, rfl⟩ | ⟨a, b, h1, h2, rfl⟩
  · repeat (first | refine r_assign (by conv => (lhs; whnf)) ?_ | refine r_nil ?_ | refine q_then ?_ | refine wp_ret ?_ | refine r_extract rfl rfl ?_)
    exact end3 rfl (resV_tmp (by conv => (lhs; whnf))) (resV_tmp (by conv => (lhs; whnf))) (resV_tmp (by conv => (lhs; whnf))) ⟨k1, .inl ⟨h1, rfl⟩⟩
  · repeat (first | refine r_assign (by conv => (lhs; whnf)) ?_ | refine r_nil ?_ | refine q_then ?_ | refine wp_ret ?_ | refine r_extract rfl rfl ?_)
    exact end3 rfl (resV_tmp (by conv => (lhs; whnf))) (resV_tmp (by conv => (lhs; whnf))) (resV_tmp (by conv => (lhs; whnf))) ⟨k1, .inr ⟨a, b, h1, h2, rfl⟩⟩
end Go.Proofs.YtpmnjjmngogkkaaGreatDoor
end

section
/- The program reads fractions. -/
set_option linter.unusedVariables false
set_option linter.unusedSimpArgs false
namespace Go.Proofs.YtpmnjjmngogkkaaGreatDoor
open Go Go.RowKit

/-- A numerator and a denominator that is kept (0: none), as read off a string. -/
def Parts (s : List UInt8) (n : Int) (d : Nat) : Prop :=
  (d = 0 ∧ (47 : UInt8) ∉ s ∧ s = Lib.itoa n) ∨ (2 ≤ d ∧ ∃ a, (47 : UInt8) ∉ a ∧ s = a ++ 47 :: Lib.decDigits d ∧ a = Lib.itoa n)
def denK (d : Nat) : Nat := if d = 0 then 1 else d
theorem parts_good {s : List UInt8} {n : Int} {d : Nat} (h : Parts s n d) (hg : Nat.gcd (denK d) n.natAbs = 1) : ∃ q : Rat, q.num = n ∧ bot q = d ∧ s = rstr q := by
  unfold denK at hg
  rcases h with ⟨rfl, h1, h2⟩ | ⟨h0, a, h1, rfl, h2⟩
  · exact ⟨(n : Rat), rfl, bot_int n, (rstr_none h1 _).2 ⟨rfl, h2⟩⟩
  · rw [if_neg (by omega), Nat.gcd_comm] at hg
    obtain ⟨q, h3, h4⟩ := rat_of n (d := d) (by omega) hg
    refine ⟨q, h3, ?_, (rstr_cut h1 q).2 ⟨by omega, by rw [h3]; exact h2, by rw [h4]⟩⟩
    unfold bot
    rw [if_neg (by omega), h4]
theorem parts_bad {s : List UInt8} {n : Int} {d : Nat} (h : Parts s n d) (hg : Nat.gcd (denK d) n.natAbs ≠ 1) : ∀ q, s ≠ rstr q := fun q hq => by
  unfold denK at hg
  rcases h with ⟨rfl, h1, h2⟩ | ⟨h0, a, h1, rfl, h2⟩
  · rw [if_pos rfl, Nat.gcd_one_left] at hg
    exact hg rfl
  · rw [if_neg (by omega), Nat.gcd_comm] at hg
    obtain ⟨h3, h4, h5⟩ := (rstr_cut h1 q).1 hq
    have h6 := congrArg digV h5
    rw [digV_dec, digV_dec] at h6
    rw [h2] at h4
    have h7 := itoa_inj h4
    subst h6 h7
    exact hg (rat_gcd q)
theorem dl_of_lt {n j k : Nat} (h : n < 10 ^ j) (hj : j ≤ 9 * k) : dl n ≤ k := by
  refine dl_le ?_
  rw [pow_nine]
  exact Nat.lt_of_lt_of_le h (pow_mono_10 hj)
theorem zl_itoaP {z : Int} {s : List UInt8} (h : s = Lib.itoa z) {k : Nat} (hl : s.length ≤ 9 * k) : zl z ≤ k := dl_digits (Nat.le_trans (abs_digits z) (h ▸ hl))
theorem den0_c {S : Nat → Prop} {w : World} {x m b : Value} {d : Nat} (hS : Up S w) (h1 : x.oneCell' = true) (h2 : m.oneCell' = true) (hb : NatV S 127 .u32 w b d) :
    Gives Tryz.prog 115 [.agg #[x, m, b]] w fun v' w' => Ext w w' ∧ NatV S 127 .u32 w' v' (denK d) := by
  have hl := @dl_eq_zero d
  unfold dl at hl
  unfold denK
  refine gives_of Tryz.func115 rfl rfl rfl ?_
  have k : Ext w w := .refl
  repeat (first | refine wp_seq_region ?_ | refine wp_region ?_)
  refine r_box (cs := [x, m, b]) (by conv => (lhs; whnf)) rfl ?_
  intro w_1 g k_1 hg hs_1
  have hsg : w.heap.size ≤ g := Nat.le_trans k.size hs_1
  clear hs_1
  replace hS := hS.to k_1
  replace hb := hb.to k_1
  replace k := k.trans k_1
  clear k_1
  repeat (first | refine r_load_blk rfl hg rfl ?_ | refine wp_seq_region ?_ | refine wp_seq_seq ?_ | refine wp_region ?_ | refine r_assign (by conv => (lhs; whnf)) ?_ | refine r_nil ?_ | refine q_then ?_ | refine r_len (by conv => (lhs; whnf)) (by assumption) ?_ | refine r_eql rfl rfl ?_ | refine r_field rfl ?_)
  try refine wp_seq_cond ?_
  refine wp_cond_dec rfl ?_ ?_ <;> intro hc
  · repeat (first | refine wp_seq_region ?_ | refine wp_region ?_)
    refine r_call (one_c hS) rfl ?_
    rintro v_2 w_2 ⟨k_2, h3⟩
    replace hS := hS.to k_2
    replace hb := hb.to k_2
    replace hg := hg.to k_2
    replace k := k.trans k_2
    clear k_2
    repeat (first | refine r_assign (by conv => (lhs; whnf)) ?_ | refine r_nil ?_ | refine q_then ?_ | refine wp_ret ?_ | refine q_then_ret ?_)
    refine end_tmp rfl (by conv => (lhs; whnf)) ⟨k, ?_⟩
    rw [if_pos (hl.1 (by omega))]
    exact h3
  · repeat (first | refine r_load_blk rfl hg rfl ?_ | refine wp_seq_region ?_ | refine wp_region ?_ | refine r_assign (by conv => (lhs; whnf)) ?_ | refine r_nil ?_ | refine q_then ?_ | refine wp_ret ?_ | refine wp_skip ?_ | refine r_field rfl ?_)
    refine end_tmp rfl (by conv => (lhs; whnf)) ⟨k, ?_⟩
    rw [if_neg (fun h => hc (by have := hl.2 h; omega))]
    exact hb
theorem isOne_e {S : Nat → Prop} {w : World} {va : Value} {a : Nat} (ha : NatV S 127 .u32 w va a) :
    Gives Tryz.prog 116 [va] w fun v' w' => v' = .bool (tst (a = 1)) ∧ Ext w w' := (isOne_c ha).mono fun _ _ ⟨h, e⟩ => ⟨h, e ▸ .refl⟩
theorem bad_iff (s : List UInt8) : (¬ DecL (Dgs s) ∨ (NegS s ∧ Dgs s = [48])) ↔ ∀ z, s ≠ Lib.itoa z := by
  constructor
  · rintro (h | ⟨h1, h2⟩) z hz
    · exact h ((num_iff s).1 ⟨z, hz⟩).1
    · exact ((num_iff s).1 ⟨z, hz⟩).2 h1 (by rw [h2]; rfl)
  · intro h
    by_cases hd : DecL (Dgs s)
    · right
      have h2 : ¬ (NegS s → (Dgs s).head? ≠ some 48) := fun h2 => h _ (num_val hd h2)
      by_cases hn : NegS s
      · refine ⟨hn, ?_⟩
        have h3 : (Dgs s).head? = some 48 := Classical.byContradiction fun h3 => h2 fun _ => h3
        have h4 := hd.2.2 h3
        match hds : Dgs s, h3, h4 with
        | [c], h3, _ => simp at h3; rw [h3]
      · exact absurd (fun h3 => absurd h3 hn) h2
    · exact .inl hd
theorem dec_two {b : List UInt8} (h : DecL b) (h0 : b ≠ [48]) (h1 : b ≠ [49]) : 2 ≤ digV b := by
  have h2 := dec_digV h
  rcases Nat.lt_or_ge (digV b) 2 with h3 | h3
  · exfalso
    have h4 : digV b = 0 ∨ digV b = 1 := by omega
    rcases h4 with h4 | h4
    · rw [h4, Lib.decDigits_one (by decide)] at h2; exact h0 h2.symm
    · rw [h4, Lib.decDigits_one (by decide)] at h2; exact h1 h2.symm
  · exact h3
theorem dec_two' {b : List UInt8} (h : ¬ (DecL b ∧ b ≠ [48] ∧ b ≠ [49])) {d : Nat} (hd : 2 ≤ d) : b ≠ Lib.decDigits d := by
  rintro rfl
  refine h ⟨decL_dec d, fun e => ?_, fun e => ?_⟩
  · have := congrArg digV e; rw [digV_dec, show digV [48] = 0 from rfl] at this; omega
  · have := congrArg digV e; rw [digV_dec, show digV [49] = 1 from rfl] at this; omega
theorem numV_parts (s : List UInt8) : (numV s).natAbs = digV (Dgs s) ∧ (numV s < 0 ↔ NegS s ∧ 0 < digV (Dgs s)) := by
  unfold numV
  split
  · rename_i h; exact ⟨by omega, ⟨fun h2 => ⟨h, by omega⟩, fun h2 => by omega⟩⟩
  · rename_i h; exact ⟨by omega, ⟨fun h2 => by omega, fun h2 => absurd h2.1 h⟩⟩
/-- What stands behind the test of the form. -/
def Form2 (s a b : List UInt8) (has : Bool) : Prop := (has = false ∧ (47 : UInt8) ∉ s ∧ a = s ∧ b = []) ∨ (has = true ∧ s = a ++ 47 :: b ∧ (47 : UInt8) ∉ a)
theorem form_bad {s a b : List UInt8} {has : Bool} (h : Form2 s a b has) (hb : (∀ z, a ≠ Lib.itoa z) ∨ (has = true ∧ ¬ (DecL b ∧ b ≠ [48] ∧ b ≠ [49]))) : ∀ q, s ≠ rstr q := fun q hq => by
  rcases h with ⟨rfl, h1, rfl, rfl⟩ | ⟨rfl, rfl, h1⟩
  · rcases hb with hb | ⟨hb, _⟩
    · exact hb _ ((rstr_none h1 q).1 hq).2
    · cases hb
  · obtain ⟨h2, h3, h4⟩ := (rstr_cut h1 q).1 hq
    rcases hb with hb | ⟨_, hb⟩
    · exact hb _ h3
    · have := q.den_pos
      exact dec_two' hb (d := q.den) (by omega) h4

set_option maxHeartbeats 2000000 in
theorem rparse_c {S : Nat → Prop} {w : World} {s : List UInt8} (hS : Up S w) (hl : s.length ≤ 140737488351232) :
    Gives Tryz.prog 53 [strV s] w fun v' w' => Ext w w' ∧
      ((70000 < s.length ∧ v' = .tuple #[.agg #[.bool false, .slice none 0 0, .slice none 0 0], .int .i64 2]) ∨ (s.length ≤ 70000 ∧ (∀ q, s ≠ rstr q) ∧ v' = .tuple #[.agg #[.bool false, .slice none 0 0, .slice none 0 0], .int .i64 10]) ∨ (s.length ≤ 70000 ∧ ∃ q, s = rstr q ∧ Tried S w' v' q)) := by
  refine gives_of Tryz.func53 rfl rfl rfl ?_
  have k : Ext w w := .refl
  repeat (first | refine wp_seq_region ?_ | refine wp_region ?_)
  refine r_alloc (cs := [.bool false, .slice none 0 0, .slice none 0 0]) rfl ?_
  intro w_1 g k_1 hg hs_1
  have hsg : w.heap.size ≤ g := Nat.le_trans k.size hs_1
  clear hs_1
  replace hS := hS.to k_1
  replace k := k.trans k_1
  clear k_1
  repeat (first | refine r_lenS rfl ?_ | refine wp_seq_region ?_ | refine wp_seq_seq ?_ | refine wp_region ?_ | refine r_move (by conv => (lhs; whnf)) ?_ | refine r_assign (by conv => (lhs; whnf)) ?_ | refine r_nil ?_ | refine q_then ?_ | refine r_gtr rfl rfl ?_)
  try refine wp_seq_cond ?_
  refine wp_cond_dec rfl ?_ ?_ <;> intro hlong
  · repeat (first | refine wp_seq_region ?_ | refine wp_region ?_)
    refine r_build0 (cs := [.bool false, .slice none 0 0, .slice none 0 0]) rfl ?_
    refine r_store3 rfl (by conv => (lhs; whnf)) hg rfl rfl rfl rfl ?_
    intro w_2 k_2 h_2
    replace hS := hS.to k_2
    replace k : Ext w w_2 := k.past k_2 hsg
    replace hg := h_2
    clear h_2 k_2
    repeat (first | refine r_assign (by conv => (lhs; whnf)) ?_ | refine r_nil ?_ | refine q_then ?_ | refine wp_ret ?_ | refine q_then_ret ?_)
    exact end2 rfl (resV_agg (by conv => (lhs; whnf)) hg rfl) (resV_tmp (by conv => (lhs; whnf))) ⟨k, .inl ⟨by omega, rfl⟩⟩
  · repeat (first | refine wp_seq_region ?_ | refine wp_region ?_ | refine r_move (by conv => (lhs; whnf)) ?_ | refine wp_skip ?_)
    refine r_call (cut_c (s := s) (by omega)) rfl ?_
    rintro v_2 w_2 ⟨k_2, c1⟩
    replace hS := hS.to k_2
    replace hg := hg.to k_2
    replace k := k.trans k_2
    clear k_2
    obtain ⟨a, b, has, rfl, hf⟩ : ∃ a b has, v_2 = .tuple #[strV a, strV b, .bool has] ∧ Form2 s a b has := by
      rcases c1 with ⟨h1, rfl⟩ | ⟨a, b, rfl, h1, rfl⟩
      · exact ⟨s, [], false, rfl, .inl ⟨rfl, h1, rfl, rfl⟩⟩
      · exact ⟨a, b, true, rfl, .inr ⟨rfl, rfl, h1⟩⟩
    have hal : a.length ≤ 70000 ∧ b.length ≤ 70000 := by
      rcases hf with ⟨_, _, rfl, rfl⟩ | ⟨_, rfl, _⟩
      · exact ⟨by omega, by simp⟩
      · simp at hlong; exact ⟨by omega, by omega⟩
    clear c1
    have hDl := dgs_le a
    repeat (first | refine wp_seq_region ?_ | refine wp_region ?_ | refine r_move (by conv => (lhs; whnf)) ?_ | refine r_assign (by conv => (lhs; whnf)) ?_ | refine r_nil ?_ | refine r_extract rfl rfl ?_)
    refine r_call (cutPrefix_c (s := a)) rfl ?_
    rintro v3 w3 ⟨rfl, rfl⟩
    repeat (first | refine wp_seq_region ?_ | refine wp_seq_seq ?_ | refine wp_region ?_ | refine r_move (by conv => (lhs; whnf)) ?_ | refine r_assign (by conv => (lhs; whnf)) ?_ | refine r_nil ?_ | refine r_extract rfl rfl ?_)
    refine r_call (isDigits_c (s := Dgs a) (by omega)) rfl ?_
    rintro v_3 w_3 ⟨rfl, k_3⟩
    replace hS := hS.to k_3
    replace hg := hg.to k_3
    replace k := k.trans k_3
    clear k_3
    repeat (first | refine r_move (by conv => (lhs; whnf)) ?_ | refine r_notB rfl ?_)
    have hba := bad_iff a
    have hgd : ¬ (∀ z, a ≠ Lib.itoa z) → DecL (Dgs a) := fun hbad => Classical.byContradiction fun h => hbad (hba.1 (.inl h))
    refine r_mid [(27, 50)] (fun ρ w' => ρ 50 = .bool (tst ((∀ z, a ≠ Lib.itoa z) ∨ (has = true ∧ ¬ (DecL b ∧ b ≠ [48] ∧ b ≠ [49])))) ∧ Ext w_3 w') ?_ ?_
    · by_cases hbad : ∀ z, a ≠ Lib.itoa z
      · by_cases hd : DecL (Dgs a)
        · rcases hba.2 hbad with h | ⟨h1, h2⟩
          · exact absurd hd h
          · rw [tst_false (show ¬ ¬ DecL (Dgs a) from fun h => h hd), tst_true h1]
            repeat (first | refine r_move (by conv => (lhs; whnf)) ?_ | refine r_guard_run rfl rfl ?_)
            refine r_eqlS (b := [48]) rfl rfl ?_
            rw [tst_true h2]
            repeat (first | refine r_move (by conv => (lhs; whnf)) ?_ | refine r_nil ?_ | refine q_then ?_ | refine r_guard_run rfl rfl ?_ | refine r_guard_skip rfl rfl rfl ?_ | refine r_guard_undef rfl rfl ?_ | refine r_pick_true rfl (by conv => (lhs; whnf)) ?_ | refine r_pick_false rfl (by conv => (lhs; whnf)) ?_)
            exact ⟨by (repeat (first | refine agree_upd rfl ?_ | exact agree_over | refine agree_sub rfl ?_ | exact agree_refl | refine agree_base rfl ?_ | refine agree_base' rfl ?_)), by rw [tst_true (Or.inl hbad)]; rfl, .refl⟩
        · rw [tst_true hd]
          repeat (first | refine r_move (by conv => (lhs; whnf)) ?_ | refine r_nil ?_ | refine q_then ?_ | refine r_guard_skip rfl rfl rfl ?_ | refine r_guard_undef rfl rfl ?_ | refine r_pick_true rfl (by conv => (lhs; whnf)) ?_)
          exact ⟨by (repeat (first | refine agree_upd rfl ?_ | exact agree_over | refine agree_sub rfl ?_ | exact agree_refl | refine agree_base rfl ?_ | refine agree_base' rfl ?_)), by rw [tst_true (Or.inl hbad)]; rfl, .refl⟩
      · rw [tst_false (show ¬ ¬ DecL (Dgs a) from fun h => h (hgd hbad))]
        by_cases hn : NegS a
        · have h48 : ¬ Dgs a = [48] := fun h => hbad (hba.1 (.inr ⟨hn, h⟩))
          rw [tst_true hn]
          repeat (first | refine r_move (by conv => (lhs; whnf)) ?_ | refine r_guard_run rfl rfl ?_)
          refine r_eqlS (b := [48]) rfl rfl ?_
          rw [tst_false h48]
          cases has
          · repeat (first | refine r_move (by conv => (lhs; whnf)) ?_ | refine r_nil ?_ | refine q_then ?_ | refine r_guard_run rfl rfl ?_ | refine r_guard_skip rfl rfl rfl ?_ | refine r_guard_undef rfl rfl ?_ | refine r_pick_true rfl (by conv => (lhs; whnf)) ?_ | refine r_pick_false rfl (by conv => (lhs; whnf)) ?_)
            exact ⟨by (repeat (first | refine agree_upd rfl ?_ | exact agree_over | refine agree_sub rfl ?_ | exact agree_refl | refine agree_base rfl ?_ | refine agree_base' rfl ?_)), congrArg Value.bool (tst_false (fun h => h.elim hbad fun h2 => Bool.noConfusion h2.1)).symm, .refl⟩
          · repeat (first | refine r_move (by conv => (lhs; whnf)) ?_ | refine r_guard_run rfl rfl ?_ | refine r_pick_true rfl (by conv => (lhs; whnf)) ?_ | refine r_pick_false rfl (by conv => (lhs; whnf)) ?_)
            refine r_call (isDigits_c (s := b) (by omega)) rfl ?_
            rintro v5 w5 ⟨rfl, k5⟩
            by_cases hd : DecL b
            · rw [tst_true hd]
              repeat (first | refine r_move (by conv => (lhs; whnf)) ?_ | refine r_guard_run rfl rfl ?_ | refine r_not rfl ?_)
              refine r_eqlS (b := [48]) rfl rfl ?_
              by_cases h0 : b = [48]
              · rw [tst_true h0]
                repeat (first | refine r_move (by conv => (lhs; whnf)) ?_ | refine r_nil ?_ | refine q_then ?_ | refine r_guard_run rfl rfl ?_ | refine r_guard_skip rfl rfl rfl ?_ | refine r_pick_true rfl (by conv => (lhs; whnf)) ?_ | refine r_pick_false rfl (by conv => (lhs; whnf)) ?_)
                exact ⟨by (repeat (first | refine agree_upd rfl ?_ | exact agree_over | refine agree_sub rfl ?_ | exact agree_refl | refine agree_base rfl ?_ | refine agree_base' rfl ?_)), congrArg Value.bool (tst_true (Or.inr ⟨rfl, fun h => h.2.1 h0⟩)).symm, k5⟩
              · rw [tst_false h0]
                repeat (first | refine r_move (by conv => (lhs; whnf)) ?_ | refine r_guard_run rfl rfl ?_ | refine r_pick_false rfl (by conv => (lhs; whnf)) ?_)
                refine r_eqlS (b := [49]) rfl rfl ?_
                repeat (first | refine r_nil ?_ | refine q_then ?_ | refine r_guard_run rfl rfl ?_ | refine r_pick_true rfl (by conv => (lhs; whnf)) ?_ | refine r_pick_false rfl (by conv => (lhs; whnf)) ?_)
                refine ⟨by (repeat (first | refine agree_upd rfl ?_ | exact agree_over | refine agree_sub rfl ?_ | exact agree_refl | refine agree_base rfl ?_ | refine agree_base' rfl ?_)), congrArg Value.bool (tst_congr ?_), k5⟩
                exact ⟨fun h => Or.inr ⟨rfl, fun h2 => h2.2.2 h⟩, fun h => Classical.byContradiction fun h2 => h.elim hbad fun h => h.2 ⟨hd, h0, h2⟩⟩
            · rw [tst_false hd]
              repeat (first | refine r_move (by conv => (lhs; whnf)) ?_ | refine r_nil ?_ | refine q_then ?_ | refine r_guard_run rfl rfl ?_ | refine r_guard_skip rfl rfl rfl ?_ | refine r_pick_true rfl (by conv => (lhs; whnf)) ?_ | refine r_pick_false rfl (by conv => (lhs; whnf)) ?_ | refine r_not rfl ?_)
              exact ⟨by (repeat (first | refine agree_upd rfl ?_ | exact agree_over | refine agree_sub rfl ?_ | exact agree_refl | refine agree_base rfl ?_ | refine agree_base' rfl ?_)), congrArg Value.bool (tst_true (Or.inr ⟨rfl, fun h => hd h.1⟩)).symm, k5⟩
        · rw [tst_false hn]
          cases has
          · repeat (first | refine r_move (by conv => (lhs; whnf)) ?_ | refine r_nil ?_ | refine q_then ?_ | refine r_guard_run rfl rfl ?_ | refine r_guard_skip rfl rfl rfl ?_ | refine r_guard_undef rfl rfl ?_ | refine r_pick_false rfl (by conv => (lhs; whnf)) ?_)
            exact ⟨by (repeat (first | refine agree_upd rfl ?_ | exact agree_over | refine agree_sub rfl ?_ | exact agree_refl | refine agree_base rfl ?_ | refine agree_base' rfl ?_)), congrArg Value.bool (tst_false (fun h => h.elim hbad fun h2 => Bool.noConfusion h2.1)).symm, .refl⟩
          · repeat (first | refine r_move (by conv => (lhs; whnf)) ?_ | refine r_guard_run rfl rfl ?_ | refine r_guard_skip rfl rfl rfl ?_ | refine r_pick_false rfl (by conv => (lhs; whnf)) ?_)
            refine r_call (isDigits_c (s := b) (by omega)) rfl ?_
            rintro v5 w5 ⟨rfl, k5⟩
            by_cases hd : DecL b
            · rw [tst_true hd]
              repeat (first | refine r_move (by conv => (lhs; whnf)) ?_ | refine r_guard_run rfl rfl ?_ | refine r_not rfl ?_)
              refine r_eqlS (b := [48]) rfl rfl ?_
              by_cases h0 : b = [48]
              · rw [tst_true h0]
                repeat (first | refine r_move (by conv => (lhs; whnf)) ?_ | refine r_nil ?_ | refine q_then ?_ | refine r_guard_run rfl rfl ?_ | refine r_guard_skip rfl rfl rfl ?_ | refine r_pick_true rfl (by conv => (lhs; whnf)) ?_ | refine r_pick_false rfl (by conv => (lhs; whnf)) ?_)
                exact ⟨by (repeat (first | refine agree_upd rfl ?_ | exact agree_over | refine agree_sub rfl ?_ | exact agree_refl | refine agree_base rfl ?_ | refine agree_base' rfl ?_)), congrArg Value.bool (tst_true (Or.inr ⟨rfl, fun h => h.2.1 h0⟩)).symm, k5⟩
              · rw [tst_false h0]
                repeat (first | refine r_move (by conv => (lhs; whnf)) ?_ | refine r_guard_run rfl rfl ?_ | refine r_pick_false rfl (by conv => (lhs; whnf)) ?_)
                refine r_eqlS (b := [49]) rfl rfl ?_
                repeat (first | refine r_nil ?_ | refine q_then ?_ | refine r_guard_run rfl rfl ?_ | refine r_pick_true rfl (by conv => (lhs; whnf)) ?_ | refine r_pick_false rfl (by conv => (lhs; whnf)) ?_)
                refine ⟨by (repeat (first | refine agree_upd rfl ?_ | exact agree_over | refine agree_sub rfl ?_ | exact agree_refl | refine agree_base rfl ?_ | refine agree_base' rfl ?_)), congrArg Value.bool (tst_congr ?_), k5⟩
                exact ⟨fun h => Or.inr ⟨rfl, fun h2 => h2.2.2 h⟩, fun h => Classical.byContradiction fun h2 => h.elim hbad fun h => h.2 ⟨hd, h0, h2⟩⟩
            · rw [tst_false hd]
              repeat (first | refine r_move (by conv => (lhs; whnf)) ?_ | refine r_nil ?_ | refine q_then ?_ | refine r_guard_run rfl rfl ?_ | refine r_guard_skip rfl rfl rfl ?_ | refine r_pick_true rfl (by conv => (lhs; whnf)) ?_ | refine r_pick_false rfl (by conv => (lhs; whnf)) ?_ | refine r_not rfl ?_)
              exact ⟨by (repeat (first | refine agree_upd rfl ?_ | exact agree_over | refine agree_sub rfl ?_ | exact agree_refl | refine agree_base rfl ?_ | refine agree_base' rfl ?_)), congrArg Value.bool (tst_true (Or.inr ⟨rfl, fun h => hd h.1⟩)).symm, k5⟩
    rintro u5 w5 ⟨h50, k5⟩
    refine wp_learn 50 h50 ?_
    clear h50
    replace hS := hS.to k5
    replace hg := hg.to k5
    replace k := k.trans k5
    clear k5
    skip
    refine wp_cond_dec rfl ?_ ?_ <;> intro hb0
    · have hq := form_bad hf hb0
      repeat (first | refine wp_seq_region ?_ | refine wp_region ?_)
      refine r_build0 (cs := [.bool false, .slice none 0 0, .slice none 0 0]) rfl ?_
      refine r_store3 rfl (by conv => (lhs; whnf)) hg rfl rfl rfl rfl ?_
      intro w_5 k_5 h_5
      replace hS := hS.to k_5
      replace k : Ext w w_5 := k.past k_5 hsg
      replace hg := h_5
      clear h_5 k_5
      repeat (first | refine r_assign (by conv => (lhs; whnf)) ?_ | refine r_nil ?_ | refine q_then ?_ | refine wp_ret ?_ | refine q_then_ret ?_)
      exact end2 rfl (resV_agg (by conv => (lhs; whnf)) hg rfl) (resV_tmp (by conv => (lhs; whnf))) ⟨k, .inr (.inl ⟨by omega, hq, rfl⟩)⟩
    · have hbad : ¬ ∀ z, a ≠ Lib.itoa z := fun h => hb0 (.inl h)
      have hb2 : ¬ (has = true ∧ ¬ (DecL b ∧ b ≠ [48] ∧ b ≠ [49])) := fun h => hb0 (.inr h)
      have hgood : DecL (Dgs a) ∧ (NegS a → (Dgs a).head? ≠ some 48) := (num_iff a).1 (Classical.byContradiction fun h => hbad fun z hz => h ⟨z, hz⟩)
      have hav : a = Lib.itoa (numV a) := num_val hgood.1 hgood.2
      obtain ⟨hnv1, hnv2⟩ := numV_parts a
      obtain ⟨d, hd⟩ : ∃ d, d = if has = true then digV b else 0 := ⟨_, rfl⟩
      have hparts : Parts s (numV a) d := by
        rcases hf with ⟨rfl, h1, rfl, rfl⟩ | ⟨rfl, rfl, h1⟩
        · exact .inl ⟨by rw [hd, if_neg (by decide)], h1, hav⟩
        · have h2 : DecL b ∧ b ≠ [48] ∧ b ≠ [49] := Classical.byContradiction fun h => hb2 ⟨rfl, h⟩
          rw [if_pos rfl] at hd
          refine .inr ⟨by rw [hd]; exact dec_two h2.1 h2.2.1 h2.2.2, a, h1, ?_, hav⟩
          rw [hd, dec_digV h2.1]
      have hbd : has = true → ∀ c ∈ b, Dig c := fun h => (Classical.byContradiction (p := DecL b) fun h2 => hb2 ⟨h, fun h3 => h2 h3.1⟩).2.1
      have hls : dl d ≤ 7778 := by
        rw [hd]
        split
        · rename_i h
          exact dl_of_lt (digV_lt (hbd h)) (by omega)
        · rw [dl_zero]
          omega
      have hln : zl (numV a) ≤ 7778 := zl_itoaP hav (by omega)
      have hlk : dl (denK d) ≤ 7778 := by
        unfold denK
        split
        · exact Nat.le_trans (dl_le (k := 1) (by decide)) (by decide)
        · exact hls
      repeat (first | refine wp_seq_region ?_ | refine wp_region ?_ | refine r_move (by conv => (lhs; whnf)) ?_ | refine wp_skip ?_)
      refine r_call (parsed_c hS hgood.1.2.1 (by omega)) rfl ?_
      rintro v_5 w_5 ⟨k_5, h1⟩
      replace hS := hS.to k_5
      replace hg := hg.to k_5
      replace k := k.trans k_5
      clear k_5
      refine r_call (signed_c (p := NegS a) (n := digV (Dgs a)) (numV a) h1 hnv1 hnv2) rfl ?_
      rintro v_6 w_6 ⟨k_6, m, rfl, h2⟩
      replace hS := hS.to k_6
      replace hg := hg.to k_6
      replace h1 := h1.to k_6
      replace k := k.trans k_6
      clear k_6
      refine r_build2of3 (by conv => (lhs; whnf)) ?_
      skip
      refine r_new (zs := [.bool false, .slice none 0 0, .slice none 0 0]) (us := [.bool (tst (numV a < 0)), m, .slice none 0 0]) rfl (fun _ => rfl) rfl rfl (ones3 rfl h2.one rfl) ?_
      intro w_7 g9 k_7 hs_7 hg9
      have hsg9 : w.heap.size ≤ g9 := Nat.le_trans k.size hs_7
      have ne_g_g9 : g ≠ g9 := fun e => by have := hg.lt; omega
      clear hs_7
      replace hS := hS.to k_7
      replace hg := hg.to k_7
      replace h2 := h2.to k_7
      replace k := k.trans k_7
      clear k_7
      have hgg : g ≠ g9 := ne_g_g9
      repeat (first | refine wp_seq_region ?_ | refine wp_seq_seq ?_ | refine wp_region ?_ | refine r_move (by conv => (lhs; whnf)) ?_ | refine r_nil ?_ | refine q_then ?_)
      first | refine wp_seq_block ?_ | refine wp_thenB ?_ | refine wp_thenBB ?_ | skip
      refine wp_mid [(58, 60)] (fun ρ w' => ∃ bt, Up S w' ∧ Ext w w' ∧ Blk w' g 34 [.bool false, .slice none 0 0, .slice none 0 0] ∧ Blk w' g9 34 [.bool (tst (numV a < 0)), m, bt] ∧ NatV S 127 .u32 w' m (numV a).natAbs ∧ NatV S 127 .u32 w' bt d) ?_ ?_
      · cases has
        · rw [if_neg (by decide)] at hd
          subst hd
          repeat (first | refine q_then ?_ | refine wp_skip ?_ | refine wp_cond_false rfl ?_)
          exact ⟨by (repeat (first | refine agree_upd rfl ?_ | exact agree_over | refine agree_sub rfl ?_ | exact agree_refl | refine agree_base rfl ?_ | refine agree_base' rfl ?_)), _, hS, k, hg, hg9, h2, .nil⟩
        · rw [if_pos rfl] at hd
          subst hd
          repeat (first | refine wp_region ?_ | refine r_move (by conv => (lhs; whnf)) ?_ | refine wp_cond_true rfl ?_)
          refine r_call (parsed_c hS (hbd rfl) (by omega)) rfl ?_
          rintro v_8 w_8 ⟨k_8, h3⟩
          replace hS := hS.to k_8
          replace hg := hg.to k_8
          replace h2 := h2.to k_8
          replace hg9 := hg9.to k_8
          replace k := k.trans k_8
          clear k_8
          repeat (first | refine r_field rfl ?_)
          refine r_store rfl rfl hg9 (show 0 + 2 < 3 by omega) h3.one ?_
          intro w_9 k_9 h_9
          replace hS := hS.to k_9
          replace hg := hg.wr k_9 (by omega)
          replace h2 := h2.wrT k_9 hg9 (by decide)
          replace h3 := h3.wrT k_9 hg9 (by decide)
          replace k : Ext w w_9 := k.past k_9 hsg9
          replace hg9 := h_9
          clear h_9 k_9
          repeat (first | refine r_nil ?_ | refine q_then ?_)
          exact ⟨by (repeat (first | refine agree_upd rfl ?_ | exact agree_over | refine agree_sub rfl ?_ | exact agree_refl | refine agree_base rfl ?_ | refine agree_base' rfl ?_)), _, hS, k, hg, hg9, h2, h3⟩
      rintro u6 w6 ⟨bt, hS, k, hg, hg9, h2, h3⟩
      have hm1 := h2.one
      have hb1 := h3.one
      repeat (first | refine wp_seq_region ?_ | refine wp_seq_seq ?_)
      refine wp_drawn 7 (by kernel_rfl) (by kernel_rfl) ?_
      apply ob_step
      · intro x w1 k1 hd
        refine r_load_all rfl (hg9.to k1) rfl ?_
        refine r_nil ?_
        exact ob_eq
      refine ob_step (e := natE S 127 .u32 (denK d)) ?_ ?_
      · intro x w1 k1 hd
        refine r_call (den0_c (x := .bool (tst (numV a < 0))) (m := m) (b := bt) (hS.to k1) rfl hm1 (h3.to k1)) rfl ?_
        rintro v2 w2 ⟨k2, h2⟩
        exact r_nil (ob_of k2 h2)
      apply ob_step
      · intro x w1 k1 hd
        refine r_field rfl ?_
        refine r_nil ?_
        exact ob_eq
      apply ob_step
      · intro x w1 k1 hd
        refine r_field rfl ?_
        refine r_nil ?_
        exact ob_eq
      apply ob_step
      · intro x w1 k1 hd
        refine r_load_blk rfl (hg9.to k1) rfl ?_
        refine r_nil ?_
        exact ob_eq
      refine ob_step (e := natE S 127 .u32 (Nat.gcd (denK d) (numV a).natAbs)) ?_ ?_
      · intro x w1 k1 hd
        refine r_call (gcd_c (hS.to k1) hd.2.2.2.1 (h2.to k1) (by omega) (Nat.le_trans hln (by decide))) rfl ?_
        rintro v2 w2 ⟨k2, h2⟩
        exact r_nil (ob_of k2 h2)
      refine ob_step (e := Ent.eq (.bool (tst (Nat.gcd (denK d) (numV a).natAbs = 1)))) ?_ ?_
      · intro x w1 k1 hd
        refine r_call (isOne_e (S := S) hd.1) rfl ?_
        rintro v2 w2 ⟨rfl, k2⟩
        exact r_nil (ob_eqv (rfl) k2)
      refine ob_nil (ob_end ?_)
      intro x w7 k7 _
      replace hS := hS.to k7
      replace hg := hg.to k7
      replace hg9 := hg9.to k7
      replace h2 := h2.to k7
      replace h3 := h3.to k7
      replace k := k.trans k7
      clear k7
      repeat (first | refine r_nil ?_ | refine q_then ?_ | refine r_notB rfl ?_)
      refine wp_cond_dec rfl ?_ ?_ <;> intro hgc
      · have hq := parts_bad hparts hgc
        repeat (first | refine wp_seq_region ?_ | refine wp_region ?_)
        refine r_build0 (cs := [.bool false, .slice none 0 0, .slice none 0 0]) rfl ?_
        refine r_store3 rfl (by conv => (lhs; whnf)) hg rfl rfl rfl rfl ?_
        intro w_9 k_9 h_9
        replace hS := hS.to k_9
        replace hg9 := hg9.wr k_9 (by omega)
        replace h2 := h2.wrT k_9 hg (by decide)
        replace h3 := h3.wrT k_9 hg (by decide)
        replace k : Ext w w_9 := k.past k_9 hsg
        replace hg := h_9
        clear h_9 k_9
        repeat (first | refine r_assign (by conv => (lhs; whnf)) ?_ | refine r_nil ?_ | refine q_then ?_ | refine wp_ret ?_ | refine q_then_ret ?_)
        exact end2 rfl (resV_agg (by conv => (lhs; whnf)) hg rfl) (resV_tmp (by conv => (lhs; whnf))) ⟨k, .inr (.inl ⟨by omega, hq, rfl⟩)⟩
      · obtain ⟨q, hq1, hq2, hq3⟩ := parts_good hparts (Classical.not_not.1 hgc)
        have hq : RatV S w7 (.agg #[.bool (tst (numV a < 0)), m, bt]) q := by
          rw [← hq1]
          refine ⟨m, bt, rfl, ?_, ?_⟩
          · rw [hq1]; exact h2
          · rw [hq2]; exact h3
        repeat (first | refine r_load_all rfl hg9 rfl ?_ | refine wp_seq_region ?_ | refine wp_region ?_ | refine wp_skip ?_ | refine r_func ?_)
        refine r_call (rattempt_c hS hq) rfl ?_
        rintro v_9 w_9 ⟨k_9, r, e, rfl, hor⟩
        replace hS := hS.to k_9
        replace hg := hg.to k_9
        replace k := k.trans k_9
        clear k_9
        rcases hor with ⟨hf, rfl, mr, br, rfl, hm, hb⟩ | ⟨hf, rfl, mr, br, rfl, hm, hb⟩
        · skip
          repeat (first | refine r_extract rfl rfl ?_)
          refine r_store3 rfl rfl hg rfl rfl hm.one hb.one ?_
          intro w_10 k_10 h_10
          replace hS := hS.to k_10
          replace hm := hm.wrT k_10 hg (by decide)
          replace hb := hb.wrT k_10 hg (by decide)
          replace k : Ext w w_10 := k.past k_10 hsg
          replace hg := h_10
          clear h_10 k_10
          repeat (first | refine r_assign (by conv => (lhs; whnf)) ?_ | refine r_nil ?_ | refine q_then ?_ | refine wp_ret ?_)
          exact end2 rfl (resV_agg (by conv => (lhs; whnf)) hg rfl) (resV_tmp (by conv => (lhs; whnf))) ⟨k, .inr (.inr ⟨by omega, q, hq3, _, _, rfl, .inl ⟨hf, rfl, mr, br, rfl, hm, hb⟩⟩)⟩
        · skip
          repeat (first | refine r_extract rfl rfl ?_)
          refine r_store3 rfl rfl hg rfl rfl hm.one hb.one ?_
          intro w_10 k_10 h_10
          replace hS := hS.to k_10
          replace hm := hm.wrT k_10 hg (by decide)
          replace hb := hb.wrT k_10 hg (by decide)
          replace k : Ext w w_10 := k.past k_10 hsg
          replace hg := h_10
          clear h_10 k_10
          repeat (first | refine r_assign (by conv => (lhs; whnf)) ?_ | refine r_nil ?_ | refine q_then ?_ | refine wp_ret ?_)
          exact end2 rfl (resV_agg (by conv => (lhs; whnf)) hg rfl) (resV_tmp (by conv => (lhs; whnf))) ⟨k, .inr (.inr ⟨by omega, q, hq3, _, _, rfl, .inr ⟨hf, rfl, mr, br, rfl, hm, hb⟩⟩)⟩
end Go.Proofs.YtpmnjjmngogkkaaGreatDoor
end

section
/- The statements' readings of integers with both. -/
set_option linter.unusedVariables false
set_option linter.unusedSimpArgs false
namespace Go.Proofs.YtpmnjjmngogkkaaGreatDoor
open Go Go.RowKit

/-- A number of few digits. -/
theorem len_small {z : Int} {k : Nat} (h : (Lib.itoa z).length ≤ k) : z.natAbs < 10 ^ k := by
  have h1 := Lib.lt_pow_nDigits z.natAbs
  have h2 : Lib.nDigits z.natAbs ≤ k := by
    have := congrArg List.length (itoa_rev z)
    rw [List.length_reverse, List.length_append, low_length] at this
    omega
  exact Nat.lt_of_lt_of_le h1 (Nat.pow_le_pow_right (by omega) h2)
theorem zl_small {z : Int} {k j : Nat} (h : (Lib.itoa z).length ≤ k) (hj : k ≤ 9 * j) : zl z ≤ j := by
  refine dl_le ?_
  rw [pow_nine]
  exact Nat.lt_of_lt_of_le (len_small h) (Nat.pow_le_pow_right (by omega) hj)
theorem big_ge {k j : Nat} (hk : k ≤ 9 * j) (hj : j ≤ 3344) : 10 ^ k ≤ Big :=
  Nat.le_trans (Nat.pow_le_pow_right (by omega) hk) (Nat.le_trans (Nat.le_of_eq (pow_nine j).symm) (Nat.le_trans (pow_mono_b hj) big_low))

theorem fits_small {z : Int} {k j : Nat} (h : (Lib.itoa z).length ≤ k) (hk : k ≤ 9 * j) (hj : j ≤ 3344) : z.natAbs < Big := Nat.lt_of_lt_of_le (len_small h) (big_ge hk hj)
theorem one_l {S : Nat → Prop} {w : World} {s : List UInt8} {most : Nat} (hS : Up S w) (hl : s.length ≤ 140737488351232) (hm1 : 1 ≤ most) (hm : most ≤ 30000) :
    Gives Tryz.prog 23 [strV s, .int .i64 (most : Int)] w fun v' w' => ∃ va vz z, v' = .tuple #[va, vz] ∧ Ext w w' ∧ (Lib.itoa z).length ≤ most ∧ IntV S 127 .u32 w' va z ∧ ZV S w' vz z := by
  refine gives_of Tryz.func23 rfl rfl rfl ?_
  repeat (first | refine wp_seq_region ?_ | refine wp_region ?_)
  refine r_alloc (cs := [.bool false, .slice none 0 0]) rfl ?_
  intro w1 g k1 hg hgs
  refine r_alloc (cs := [.bool false, .slice none 0 0]) rfl ?_
  intro w2 g2 k2 hg2 hgs2
  have hgl := hg.lt
  replace hg := hg.to k2
  have hk1 := k1.size
  have k := k1.trans k2
  repeat (first | refine wp_seq_region ?_ | refine wp_region ?_ | refine r_move (by conv => (lhs; whnf)) ?_ | refine r_nil ?_)
  refine r_call (zparse_c (hS.to k) hl) rfl ?_
  rintro v3 w3 ⟨k3, hp⟩
  replace hg := hg.to k3
  replace hg2 := hg2.to k3
  replace k := k.trans k3
  replace hS := hS.to k
  -- what stands in the variable behind the test
  obtain ⟨b, m0, vb, rfl, h1, hok⟩ : ∃ b m0 vb, v3 = .tuple #[.agg #[b, m0], .bool vb] ∧ (b.oneCell' = true ∧ m0.oneCell' = true) ∧ ((vb = true ∧ ∃ z, s = Lib.itoa z ∧ ZV S w3 (.agg #[b, m0]) z) ∨ vb = false) := by
    rcases hp with ⟨z, vz, hz, rfl, m, rfl, hm⟩ | ⟨_, rfl⟩
    · exact ⟨_, _, _, rfl, ⟨rfl, hm.one⟩, .inl ⟨rfl, z, hz, m, rfl, hm.mono fun _ _ h => h⟩⟩
    · exact ⟨_, _, _, rfl, ⟨rfl, rfl⟩, .inr rfl⟩
  clear hp
  repeat (first | refine r_move (by conv => (lhs; whnf)) ?_ | refine r_extract rfl rfl ?_)
  refine r_alloc (cs := [.bool false, .slice none 0 0]) rfl ?_
  intro w4 g4 k4 hg4 hgs4
  have hg2l := hg2.lt
  have hks := k.size
  refine r_store2 rfl rfl hg4 h1.1 h1.2 ?_
  intro w5 k5 hg5
  replace hg := (hg.to k4).wr k5 (by omega)
  replace hg2 := (hg2.to k4).wr k5 (by omega)
  replace hS : Up S w5 := fun i hi => hS i (by have := k4.size; have := k5.size; omega)
  replace k : Ext w w5 := (k.trans k4).past k5 (by omega)
  have hok5 : (vb = true ∧ ∃ z, s = Lib.itoa z ∧ ZV S w5 (.agg #[b, m0]) z) ∨ vb = false := by
    rcases hok with ⟨h, z, hz, m, hm1, hm2⟩ | h
    · exact .inl ⟨h, z, hz, m, hm1, (hm2.to k4).wrT k5 hg4 (by decide)⟩
    · exact .inr h
  clear hok
  repeat (first | refine wp_seq_region ?_ | refine wp_seq_seq ?_ | refine wp_region ?_ | refine r_move (by conv => (lhs; whnf)) ?_ | refine r_assign (by conv => (lhs; whnf)) ?_ | refine r_nil ?_ | refine r_not rfl ?_)
  refine r_mid [(17, 22)] (fun ρ w' => ρ 22 = .bool (tst (vb = false ∨ most < s.length)) ∧ w' = w5) ?_ ?_
  · cases vb
    · repeat (first | refine r_nil ?_ | refine q_then ?_ | refine r_guard_skip rfl rfl rfl ?_ | refine r_pick_true rfl (by conv => (lhs; whnf)) ?_)
      exact ⟨by (repeat (first | refine agree_upd rfl ?_ | exact agree_over | refine agree_sub rfl ?_ | exact agree_refl | refine agree_base rfl ?_ | refine agree_base' rfl ?_)), by rw [tst_true (Or.inl rfl)]; rfl, rfl⟩
    · repeat (first | refine r_lenS rfl ?_ | refine r_move (by conv => (lhs; whnf)) ?_ | refine r_nil ?_ | refine q_then ?_ | refine r_guard_run rfl rfl ?_ | refine r_pick_false rfl (by conv => (lhs; whnf)) ?_ | refine r_gtr rfl rfl ?_)
      refine ⟨by (repeat (first | refine agree_upd rfl ?_ | exact agree_over | refine agree_sub rfl ?_ | exact agree_refl | refine agree_base rfl ?_ | refine agree_base' rfl ?_)), congrArg Value.bool (tst_congr ?_), rfl⟩
      exact ⟨fun h => Or.inr (by omega), fun h => h.elim (fun h => by cases h) fun h => by omega⟩
  rintro u1 w6 ⟨h22, rfl⟩
  refine wp_learn 22 h22 ?_
  clear h22
  skip
  first | refine wp_seq_cond ?_ | refine wp_thenB ?_ | refine wp_thenBB ?_ | skip
  refine wp_join [(23, 23)] (fun ρ w' => Ext w w' ∧ Blk w' g 26 [.bool false, .slice none 0 0] ∧ Blk w' g2 31 [.bool false, .slice none 0 0] ∧ ∃ z b m, Blk w' g4 31 [b, m] ∧ ZV S w' (.agg #[b, m]) z ∧ (Lib.itoa z).length ≤ most ∧ w6.heap.size ≤ w'.heap.size) rfl ?_ ?_ ?_
  · intro _
    repeat (first | refine wp_region ?_)
    refine r_call (zof_c (z := 1) hS (by decide) (by decide)) rfl ?_
    rintro v7 w7 ⟨k7, m7, rfl, h7⟩
    have hg7 := hg5.to k7
    have hk5 := k.size
    refine r_store2 rfl rfl hg7 rfl h7.one ?_
    intro w8 k8 hg8
    repeat (first | refine r_nil ?_ | refine q_then ?_)
    refine ⟨by (repeat (first | refine agree_upd rfl ?_ | exact agree_over | refine agree_sub rfl ?_ | exact agree_refl | refine agree_base rfl ?_ | refine agree_base' rfl ?_)), (k.trans k7).past k8 (by omega), (hg.to k7).wr k8 (by omega), (hg2.to k7).wr k8 (by omega), 1, _, _, hg8, ⟨m7, rfl, h7.wrT k8 hg7 (by decide)⟩, ?_⟩
    rw [show Lib.itoa 1 = [49] from by unfold Lib.itoa; rw [if_neg (by decide), show (1 : Int).toNat = 1 from rfl, Lib.decDigits_one (by decide)]; rfl]
    exact ⟨hm1, by have := k7.size; have := k8.size; omega⟩
  · intro hno
    rcases hok5 with ⟨_, z, hz, hzv⟩ | h
    · repeat (first | refine q_then ?_ | refine wp_skip ?_)
      exact ⟨by (repeat (first | refine agree_upd rfl ?_ | exact agree_over | refine agree_sub rfl ?_ | exact agree_refl | refine agree_base rfl ?_ | refine agree_base' rfl ?_)), k, hg, hg2, z, b, m0, hg5, hzv, by rw [← hz]; exact Nat.not_lt.1 fun h => hno (Or.inr h), Nat.le_refl _⟩
    · exact absurd (Or.inl h) hno
  rintro u2 w7 ⟨k7, hg7, hg27, z, b', m', hg47, hzv, hzl, hsz67⟩
  clear hok5 hg hg2 hg5 k
  have hS7 : Up S w7 := fun i hi => hS i (by omega)
  have hlen : (Lib.itoa z).length ≤ 30000 := by omega
  have hzz : zl z ≤ 3334 := zl_small hlen (by omega)
  repeat (first | refine r_load_all rfl hg47 rfl ?_ | refine wp_seq_region ?_ | refine wp_region ?_)
  refine r_call (zstr_c (v := .agg #[b', m']) hzv (by omega)) rfl ?_
  rintro v8 w8 ⟨rfl, k8⟩
  refine r_call (iparse_c (hS7.to k8) (by omega)) rfl ?_
  rintro v9 w9 ⟨k9, hp⟩
  have hz2 : ITried S w9 v9 z := by
    rcases hp with ⟨h, _⟩ | ⟨_, h, _⟩ | ⟨_, z', hz', h⟩
    · omega
    · exact absurd rfl (h z)
    · rw [itoa_inj hz']; exact h
  have hfit : z.natAbs < Big := fits_small (j := 3334) hlen (by omega) (by omega)
  obtain ⟨r9, e9, rfl, hor⟩ := hz2
  have h9 : IntV S 127 .u32 w9 r9 z := by
    rcases hor with ⟨_, _, h⟩ | ⟨h, _⟩
    · exact h
    · exact absurd hfit h
  obtain ⟨m9, rfl, h9⟩ := h9
  clear hor hp
  have k89 := k8.trans k9
  obtain ⟨mz, hbz, hmz⟩ := hzv
  have hbz1 : b' = .bool (tst (z < 0)) := by simp at hbz; exact hbz.1
  have hbz2 : m' = mz := by simp at hbz; exact hbz.2
  subst hbz1 hbz2
  repeat (first | refine r_move (by conv => (lhs; whnf)) ?_ | refine r_extract rfl rfl ?_)
  refine r_alloc (cs := [.bool false, .slice none 0 0]) rfl ?_
  intro w10 g10 k10 hg10 hgs10
  have k8a := k89.trans k10
  have hl1 := hg7.lt
  have hl2 := hg27.lt
  have hl4 := hg47.lt
  have hks7 := k7.size
  have hks8 := k89.size
  refine r_store2 rfl rfl hg10 rfl h9.one ?_
  intro w11 k11 hg11
  replace hg7 := (hg7.to k8a).wr k11 (by omega)
  replace hg27 := (hg27.to k8a).wr k11 (by omega)
  replace hg47 := (hg47.to k8a).wr k11 (by omega)
  replace h9 := (h9.to k10).wrT k11 hg10 (by decide)
  replace hmz := (hmz.to k8a).wrT k11 hg10 (by decide)
  replace k7 : Ext w w11 := (k7.trans k8a).past k11 (by omega)
  have hne : g ≠ g2 := by omega
  have hks11 := k7.size
  repeat (first | refine wp_seq_region ?_ | refine r_assign (by conv => (lhs; whnf)) ?_ | refine r_nil ?_)
  refine wp_drawnR (R := OneW g 26 [.bool false, .slice none 0 0] [.bool (tst (z < 0)), m9]) 3 OneW.trans OneW.drew (by kernel_rfl) (by kernel_rfl) ?_
  apply ob_stepR
  · intro x w1 k1 hd
    refine r_load_all rfl (hg11.wr k1.1 (by omega)) rfl ?_
    refine r_nil ?_
    exact ob_eqR OneW.refl
  apply ob_stepR
  · intro x w1 k1 hd
    refine r_load_all rfl (hg47.wr k1.1 (by omega)) rfl ?_
    refine r_nil ?_
    exact ob_eqR OneW.refl
  refine ob_stepR (e := EntR.of (fun v w => Blk w g 26 [.bool (tst (z < 0)), m9]) (fun v w w' h k => k.2.2 h)) ?_ ?_
  · intro x w1 k1 hd
    rcases k1.2.1 (.inl hg7) with hgx | hgx
    · refine r_store2 rfl rfl hgx rfl h9.one ?_
      intro w12 k12 hg12
      exact r_nil (ob_doneR (OneW.wrote k12 hg12) hg12)
    · refine r_store2 rfl rfl hgx rfl h9.one ?_
      intro w12 k12 hg12
      exact r_nil (ob_doneR (OneW.wrote k12 hg12) hg12)
  refine ob_nilR (ob_endR ?_)
  intro x w12 k12 hall
  have hg13 : Blk w12 g 26 [.bool (tst (z < 0)), m9] := hall.1
  refine r_store2 rfl rfl (hg27.wr k12.1 (by omega)) rfl hmz.one ?_
  intro w14 k14 hg14
  repeat (first | refine r_nil ?_ | refine q_then ?_ | refine wp_ret ?_)
  refine end2 rfl (resV_agg (by conv => (lhs; whnf)) (hg13.wr k14 (by omega)) rfl) (resV_agg (by conv => (lhs; whnf)) hg14 rfl) ⟨_, _, z, rfl, (k7.past k12.1 (by omega)).past k14 (by omega), by omega, ?_, ?_⟩
  · exact ⟨m9, rfl, (h9.wrT k12.1 hg7 (by decide)).wrT k14 (hg27.wr k12.1 (by omega)) (by decide)⟩
  · exact ⟨m', rfl, (hmz.wrT k12.1 hg7 (by decide)).wrT k14 (hg27.wr k12.1 (by omega)) (by decide)⟩
end Go.Proofs.YtpmnjjmngogkkaaGreatDoor
end

section
/- The statements' readings of fractions with both; what a call returns is a fraction, or the error and 0. -/
set_option linter.unusedVariables false
set_option linter.unusedSimpArgs false
namespace Go.Proofs.YtpmnjjmngogkkaaGreatDoor
open Go Go.RowKit

theorem rl_add {a b : Rat} {n m : Nat} (ha : rl a n) (hb : rl b m) : rl (a + b) (n + m + 1) := by
  rw [Rat.add_def']
  obtain ⟨h1, h2⟩ := mkRat_le (a.num * b.den + b.num * a.den) (Nat.mul_pos a.den_pos b.den_pos)
  have h3 := zl_add (a.num * b.den) (b.num * a.den)
  have h4 := zl_mul a.num b.den
  have h5 := zl_mul b.num a.den
  have h6 := dl_mul a.den b.den
  have h7 : zl (a.den : Int) = dl a.den := by unfold zl; rw [Int.natAbs_natCast]
  have h8 : zl (b.den : Int) = dl b.den := by unfold zl; rw [Int.natAbs_natCast]
  obtain ⟨a1, a2⟩ := ha
  obtain ⟨b1, b2⟩ := hb
  have a1' : zl a.num ≤ n := a1
  have b1' : zl b.num ≤ m := b1
  refine ⟨Nat.le_trans (dl_mono h1) ?_, Nat.le_trans (dl_mono h2) (by omega)⟩
  show zl _ ≤ _
  omega
theorem rl_neg {a : Rat} {n : Nat} (ha : rl a n) : rl (-a) n := by
  refine ⟨?_, ?_⟩
  · rw [Rat.neg_num, Int.natAbs_neg]; exact ha.1
  · rw [Rat.neg_den]; exact ha.2
theorem rl_sub {a b : Rat} {n m : Nat} (ha : rl a n) (hb : rl b m) : rl (a - b) (n + m + 1) := by
  rw [Rat.sub_eq_add_neg]
  exact rl_add ha (rl_neg hb)
theorem rl_div {a b : Rat} {n m : Nat} (ha : rl a n) (hb : rl b m) (hb0 : b.num ≠ 0) : rl (a / b) (n + m) := by
  rw [rat_over a b hb0]
  obtain ⟨h1, h2⟩ := mkRat_le (a.num * b.den * b.num.sign) (d := a.den * b.num.natAbs) (Nat.mul_pos a.den_pos (by omega))
  rw [over_abs a b hb0] at h1
  have h4 := dl_mul a.num.natAbs b.den
  have h6 := dl_mul a.den b.num.natAbs
  obtain ⟨a1, a2⟩ := ha
  obtain ⟨b1, b2⟩ := hb
  exact ⟨Nat.le_trans (dl_mono h1) (by omega), Nat.le_trans (dl_mono h2) (by omega)⟩

/-- A reading, as a variable keeps it. -/
def RC (S : Nat → Prop) (w : World) (c1 c2 c3 c4 : Value) (vb : Bool) (s : List UInt8) : Prop :=
  (c1.oneCell' = true ∧ c2.oneCell' = true ∧ c3.oneCell' = true ∧ c4.oneCell' = true) ∧ ((vb = true ∧ ∃ q, s = rstr q ∧ QV S w (.agg #[c1, c2, c3, c4]) q) ∨ (vb = false ∧ ∀ q, s ≠ rstr q))
theorem RC.to {S : Nat → Prop} {w w' : World} {c1 c2 c3 c4 : Value} {vb : Bool} {s : List UInt8} (h : RC S w c1 c2 c3 c4 vb s) (k : Ext w w') : RC S w' c1 c2 c3 c4 vb s :=
  ⟨h.1, h.2.imp (fun ⟨e, n, h1, h2⟩ => ⟨e, n, h1, h2.to k⟩) id⟩
theorem ReadR.rc {S : Nat → Prop} {w : World} {v : Value} {s : List UInt8} (h : ReadR S w v s) : ∃ c1 c2 c3 c4 vb, v = .tuple #[.agg #[c1, c2, c3, c4], .bool vb] ∧ RC S w c1 c2 c3 c4 vb s := by
  rcases h with ⟨q, vq, hq, rfl, m, b, rfl, hm, hb⟩ | ⟨hq, rfl⟩
  · exact ⟨_, _, _, _, _, rfl, ⟨rfl, hm.one, rfl, hb.one⟩, .inl ⟨rfl, q, hq, m, b, rfl, hm, hb⟩⟩
  · exact ⟨_, _, _, _, _, rfl, ⟨rfl, rfl, rfl, rfl⟩, .inr ⟨rfl, hq⟩⟩
theorem rat_one' : mkRat (1 * (1 : Int).sign) (1 : Int).natAbs = ((1 : Int) : Rat) := by decide +kernel
theorem rstr_one : rstr ((1 : Int) : Rat) = [49] := by
  rw [rstr_int rfl]
  show Lib.itoa 1 = [49]
  unfold Lib.itoa
  rw [if_neg (by decide), show (1 : Int).toNat = 1 from rfl, Lib.decDigits_one (by decide)]
  rfl

set_option maxHeartbeats 1000000 in
theorem ratio_l {S : Nat → Prop} {w : World} {s : List UInt8} {most : Nat} (hS : Up S w) (hl : s.length ≤ 140737488351232) (hm1 : 1 ≤ most) (hm : most ≤ 30000) :
    Gives Tryz.prog 38 [strV s, .int .i64 (most : Int)] w fun v' w' => ∃ va vq q, v' = .tuple #[va, vq] ∧ Ext w w' ∧ (rstr q).length ≤ most ∧ RatV S w' va q ∧ QV S w' vq q := by
  have hm1o : 1 ≤ most := hm1
  refine gives_of Tryz.func38 rfl rfl rfl ?_
  have k : Ext w w := .refl
  repeat (first | refine wp_seq_region ?_ | refine wp_region ?_)
  refine r_alloc (cs := [.bool false, .slice none 0 0, .slice none 0 0]) rfl ?_
  intro w_1 g k_1 hg hs_1
  have hsg : w.heap.size ≤ g := Nat.le_trans k.size hs_1
  clear hs_1
  replace hS := hS.to k_1
  replace k := k.trans k_1
  clear k_1
  refine r_alloc (cs := [.bool false, .slice none 0 0, .bool false, .slice none 0 0]) rfl ?_
  intro w_2 g2 k_2 hg2 hs_2
  have hsg2 : w.heap.size ≤ g2 := Nat.le_trans k.size hs_2
  have ne_g_g2 : g ≠ g2 := fun e => by have := hg.lt; omega
  clear hs_2
  replace hS := hS.to k_2
  replace hg := hg.to k_2
  replace k := k.trans k_2
  clear k_2
  repeat (first | refine wp_seq_region ?_ | refine wp_region ?_ | refine r_move (by conv => (lhs; whnf)) ?_ | refine r_nil ?_)
  refine r_call (zread_c hS hl) rfl ?_
  rintro v_3 w_3 ⟨k_3, hp⟩
  replace hS := hS.to k_3
  replace hg := hg.to k_3
  replace hg2 := hg2.to k_3
  replace k := k.trans k_3
  clear k_3
  obtain ⟨c1, c2, c3, c4, vb, rfl, h1⟩ := hp.rc
  obtain ⟨o1, o2, o3, o4⟩ := h1.1
  clear hp
  repeat (first | refine r_move (by conv => (lhs; whnf)) ?_ | refine r_extract rfl rfl ?_)
  refine r_new (zs := [.bool false, .slice none 0 0, .bool false, .slice none 0 0]) (us := [c1, c2, c3, c4]) rfl (fun _ => rfl) rfl rfl (ones4 o1 o2 o3 o4) ?_
  intro w_4 g4 k_4 hs_4 hg4
  have hsg4 : w.heap.size ≤ g4 := Nat.le_trans k.size hs_4
  have ne_g_g4 : g ≠ g4 := fun e => by have := hg.lt; omega
  have ne_g2_g4 : g2 ≠ g4 := fun e => by have := hg2.lt; omega
  clear hs_4
  replace hS := hS.to k_4
  replace hg := hg.to k_4
  replace hg2 := hg2.to k_4
  replace h1 := h1.to k_4
  replace k := k.trans k_4
  clear k_4
  repeat (first | refine wp_seq_region ?_ | refine wp_seq_seq ?_ | refine wp_region ?_ | refine r_move (by conv => (lhs; whnf)) ?_ | refine r_assign (by conv => (lhs; whnf)) ?_ | refine r_nil ?_ | refine r_not rfl ?_)
  refine r_mid [(17, 22)] (fun ρ w' => ρ 22 = .bool (tst (vb = false ∨ most < s.length)) ∧ w' = w_4) ?_ ?_
  · cases vb
    · repeat (first | refine r_nil ?_ | refine q_then ?_ | refine r_guard_skip rfl rfl rfl ?_ | refine r_pick_true rfl (by conv => (lhs; whnf)) ?_)
      exact ⟨by (repeat (first | refine agree_upd rfl ?_ | exact agree_over | refine agree_sub rfl ?_ | exact agree_refl | refine agree_base rfl ?_ | refine agree_base' rfl ?_)), by rw [tst_true (Or.inl rfl)]; rfl, rfl⟩
    · repeat (first | refine r_lenS rfl ?_ | refine r_move (by conv => (lhs; whnf)) ?_ | refine r_nil ?_ | refine q_then ?_ | refine r_guard_run rfl rfl ?_ | refine r_pick_false rfl (by conv => (lhs; whnf)) ?_ | refine r_gtr rfl rfl ?_)
      refine ⟨by (repeat (first | refine agree_upd rfl ?_ | exact agree_over | refine agree_sub rfl ?_ | exact agree_refl | refine agree_base rfl ?_ | refine agree_base' rfl ?_)), congrArg Value.bool (tst_congr ?_), rfl⟩
      exact ⟨fun h => Or.inr (by omega), fun h => h.elim (fun h => by cases h) fun h => by omega⟩
  rintro u1 w6 ⟨h22, rfl⟩
  refine wp_learn 22 h22 ?_
  clear h22
  skip
  have n1 : g ≠ g4 := ne_g_g4
  have n2 : g2 ≠ g4 := ne_g2_g4
  have n3 : g ≠ g2 := ne_g_g2
  first | refine wp_seq_cond ?_ | refine wp_thenB ?_ | refine wp_thenBB ?_ | skip
  refine wp_join [(23, 23)] (fun ρ w' => Up S w' ∧ Ext w w' ∧ Blk w' g 34 [.bool false, .slice none 0 0, .slice none 0 0] ∧ Blk w' g2 45 [.bool false, .slice none 0 0, .bool false, .slice none 0 0] ∧ ∃ q m b, Blk w' g4 45 [.bool (tst (q.num < 0)), m, .bool (tst ((q.den : Int) < 0)), b] ∧ NatV S 3 .i64 w' m q.num.natAbs ∧ NatV S 3 .i64 w' b q.den ∧ (rstr q).length ≤ most) rfl ?_ ?_ ?_
  · intro _
    repeat (first | refine wp_region ?_)
    refine r_call (zfrac_c (a := 1) (b := 1) hS (by decide) (by decide) (by decide) (by decide) (by decide) (Nat.le_trans zl_one (by decide)) (Nat.le_trans zl_one (by decide))) rfl ?_
    rintro v_5 w_5 ⟨k_5, hf⟩
    replace hS := hS.to k_5
    replace hg := hg.to k_5
    replace hg2 := hg2.to k_5
    replace hg4 := hg4.to k_5
    replace k := k.trans k_5
    clear k_5
    rw [rat_one'] at hf
    obtain ⟨m, b, rfl, hm1, hb1⟩ := hf
    skip
    refine r_store4 rfl rfl hg4 rfl rfl hm1.one rfl hb1.one ?_
    intro w_6 k_6 h_6
    replace hS := hS.to k_6
    replace hg := hg.wr k_6 (by omega)
    replace hg2 := hg2.wr k_6 (by omega)
    replace hm1 := hm1.wrT k_6 hg4 (by decide)
    replace hb1 := hb1.wrT k_6 hg4 (by decide)
    replace k : Ext w w_6 := k.past k_6 hsg4
    replace hg4 := h_6
    clear h_6 k_6
    repeat (first | refine r_nil ?_ | refine q_then ?_)
    exact ⟨by (repeat (first | refine agree_upd rfl ?_ | exact agree_over | refine agree_sub rfl ?_ | exact agree_refl | refine agree_base rfl ?_ | refine agree_base' rfl ?_)), hS, k, hg, hg2, _, m, b, hg4, hm1, hb1, by rw [rstr_one]; exact hm1o⟩
  · intro hno
    obtain ⟨_, ⟨rfl, q, hq, m, b, he, hm1, hb1⟩ | ⟨rfl, _⟩⟩ := h1
    · have e1 : c1 = .bool (tst (q.num < 0)) ∧ c2 = m ∧ c3 = .bool (tst ((q.den : Int) < 0)) ∧ c4 = b := by simpa using he
      obtain ⟨rfl, rfl, rfl, rfl⟩ := e1
      repeat (first | refine q_then ?_ | refine wp_skip ?_)
      exact ⟨by (repeat (first | refine agree_upd rfl ?_ | exact agree_over | refine agree_sub rfl ?_ | exact agree_refl | refine agree_base rfl ?_ | refine agree_base' rfl ?_)), hS, k, hg, hg2, q, c2, c4, hg4, hm1, hb1, by rw [← hq]; exact Nat.not_lt.1 fun h => hno (Or.inr h)⟩
    · exact absurd (Or.inl rfl) hno
  rintro u2 w7 ⟨hS, k, hg, hg2, q, m, b, hg4, hm1, hb1, hql⟩
  clear h1
  have hq1 : rl q 3334 := rl_len (by omega)
  have hfit : Fits q := fits_len (by omega)
  repeat (first | refine r_load_all rfl hg4 rfl ?_ | refine wp_seq_region ?_ | refine wp_region ?_)
  refine r_call (zform_c hS ⟨m, b, rfl, hm1, hb1⟩ (rl_mono hq1 (by decide))) rfl ?_
  rintro v_5 w_5 ⟨rfl, k_5⟩
  replace hS := hS.to k_5
  replace hm1 := hm1.to k_5
  replace hb1 := hb1.to k_5
  replace hg := hg.to k_5
  replace hg2 := hg2.to k_5
  replace hg4 := hg4.to k_5
  replace k := k.trans k_5
  clear k_5
  refine r_call (rparse_c hS (by omega)) rfl ?_
  rintro v_6 w_6 ⟨k_6, hp⟩
  replace hS := hS.to k_6
  replace hm1 := hm1.to k_6
  replace hb1 := hb1.to k_6
  replace hg := hg.to k_6
  replace hg2 := hg2.to k_6
  replace hg4 := hg4.to k_6
  replace k := k.trans k_6
  clear k_6
  have ht : Tried S w_6 v_6 q := by
    rcases hp with ⟨h, _⟩ | ⟨_, h, _⟩ | ⟨_, q', hq', h⟩
    · omega
    · exact absurd rfl (h q)
    · rw [rstr_inj hq']; exact h
  clear hp
  obtain ⟨r, e, rfl, ⟨_, rfl, mr, br, rfl, hmr, hbr⟩ | ⟨h, _⟩⟩ := ht
  · skip
    repeat (first | refine r_move (by conv => (lhs; whnf)) ?_ | refine r_extract rfl rfl ?_)
    refine r_new (zs := [.bool false, .slice none 0 0, .slice none 0 0]) (us := [.bool (tst (q.num < 0)), mr, br]) rfl (fun _ => rfl) rfl rfl (ones3 rfl hmr.one hbr.one) ?_
    intro w_7 g8 k_7 hs_7 hg8
    have hsg8 : w.heap.size ≤ g8 := Nat.le_trans k.size hs_7
    have ne_g_g8 : g ≠ g8 := fun e => by have := hg.lt; omega
    have ne_g2_g8 : g2 ≠ g8 := fun e => by have := hg2.lt; omega
    have ne_g4_g8 : g4 ≠ g8 := fun e => by have := hg4.lt; omega
    clear hs_7
    replace hS := hS.to k_7
    replace hm1 := hm1.to k_7
    replace hb1 := hb1.to k_7
    replace hg := hg.to k_7
    replace hg2 := hg2.to k_7
    replace hg4 := hg4.to k_7
    replace hmr := hmr.to k_7
    replace hbr := hbr.to k_7
    replace k := k.trans k_7
    clear k_7
    repeat (first | refine wp_seq_region ?_ | refine r_assign (by conv => (lhs; whnf)) ?_ | refine r_nil ?_)
    have hne2 : g2 ≠ g := fun e => n3 e.symm
    have hne4 : g4 ≠ g := fun e => n1 e.symm
    have hne8 : g8 ≠ g := fun e => ne_g_g8 e.symm
    refine wp_drawnR (R := OneW g 34 [.bool false, .slice none 0 0, .slice none 0 0] [.bool (tst (q.num < 0)), mr, br]) 3 OneW.trans OneW.drew (by kernel_rfl) (by kernel_rfl) ?_
    apply ob_stepR
    · intro x w1 k1 hd
      refine r_load_all rfl (hg8.wr k1.1 (by omega)) rfl ?_
      refine r_nil ?_
      exact ob_eqR OneW.refl
    apply ob_stepR
    · intro x w1 k1 hd
      refine r_load_all rfl (hg4.wr k1.1 (by omega)) rfl ?_
      refine r_nil ?_
      exact ob_eqR OneW.refl
    refine ob_stepR (e := EntR.of (fun v w => Blk w g 34 [.bool (tst (q.num < 0)), mr, br]) (fun v w w' h k => k.2.2 h)) ?_ ?_
    · intro x w1 k1 hd
      rcases k1.2.1 (.inl hg) with hgx | hgx
      · refine r_store3 rfl rfl hgx rfl rfl hmr.one hbr.one ?_
        intro w12 k12 hg12
        exact r_nil (ob_doneR (OneW.wrote k12 hg12) hg12)
      · refine r_store3 rfl rfl hgx rfl rfl hmr.one hbr.one ?_
        intro w12 k12 hg12
        exact r_nil (ob_doneR (OneW.wrote k12 hg12) hg12)
    refine ob_nilR (ob_endR ?_)
    intro x w12 k12 hall
    have hg13 : Blk w12 g 34 [.bool (tst (q.num < 0)), mr, br] := hall.1
    have k12' := k12.1
    replace hg2 := hg2.wr k12' (by omega)
    replace hmr := hmr.wrT k12' hg (by decide)
    replace hbr := hbr.wrT k12' hg (by decide)
    replace hm1 := hm1.wrT k12' hg (by decide)
    replace hb1 := hb1.wrT k12' hg (by decide)
    replace k : Ext w w12 := k.past k12' hsg
    replace hg := hg13
    clear hg13 k12 k12' hall hg4 hg8 hS
    refine r_store4 rfl rfl hg2 rfl rfl hm1.one rfl hb1.one ?_
    intro w_8 k_8 h_8
    replace hmr := hmr.wrT k_8 hg2 (by decide)
    replace hbr := hbr.wrT k_8 hg2 (by decide)
    replace hm1 := hm1.wrT k_8 hg2 (by decide)
    replace hb1 := hb1.wrT k_8 hg2 (by decide)
    replace hg := hg.wr k_8 (by omega)
    replace k : Ext w w_8 := k.past k_8 hsg2
    replace hg2 := h_8
    clear h_8 k_8
    repeat (first | refine r_nil ?_ | refine q_then ?_ | refine wp_ret ?_)
    exact end2 rfl (resV_agg (by conv => (lhs; whnf)) hg rfl) (resV_agg (by conv => (lhs; whnf)) hg2 rfl) ⟨_, _, q, rfl, k, hql, ⟨mr, br, rfl, hmr, hbr⟩, ⟨m, b, rfl, hm1, hb1⟩⟩
  · exact absurd hfit h

/-- What a call returns: the fraction, or the error and 0. -/
def DoneOk (x : Rat) (e : Int) (q : Rat) : Prop := (Fits q ∧ e = 0 ∧ x = q) ∨ (¬ Fits q ∧ e = 11 ∧ x = 0)
theorem Tried.done {S : Nat → Prop} {w : World} {v : Value} {q : Rat} (h : Tried S w v q) : ∃ e x m b, v = .tuple #[.agg #[.bool (tst (x.num < 0)), m, b], .int .i64 e] ∧ DoneOk x e q ∧ NatV S 127 .u32 w m x.num.natAbs ∧ NatV S 127 .u32 w b (bot x) := by
  obtain ⟨r, e, rfl, ⟨h1, rfl, m, b, rfl, hm, hb⟩ | ⟨h1, rfl, m, b, rfl, hm, hb⟩⟩ := h
  · exact ⟨0, q, m, b, rfl, .inl ⟨h1, rfl, rfl⟩, hm, hb⟩
  · exact ⟨11, 0, m, b, rfl, .inr ⟨h1, rfl, rfl⟩, hm, hb⟩
theorem DoneOk.rl {x q : Rat} {e : Int} {n : Nat} (h : DoneOk x e q) (hq : rl q n) (hn : 0 < n) : rl x n := by
  rcases h with ⟨_, _, rfl⟩ | ⟨_, _, rfl⟩
  · exact hq
  · exact ⟨Nat.le_trans (dl_le (k := 1) (by decide)) hn, Nat.le_trans (dl_le (k := 1) (by decide)) hn⟩
theorem DoneOk.tt {x q : Rat} {e : Int} (h : DoneOk x e q) : (Fits q ∧ e = 0 ∧ rstr x = rstr q) ∨ (¬ Fits q ∧ e = 11 ∧ x.num.sign = 0) := by
  rcases h with ⟨h, h2, rfl⟩ | ⟨h, h2, rfl⟩
  · exact .inl ⟨h, h2, rfl⟩
  · exact .inr ⟨h, h2, rfl⟩
theorem done_l {S : Nat → Prop} {w : World} {vr vq : Value} {e : Int} {r q : Rat} (hS : Up S w) (ht : Tab w) (hr : RatV S w vr r) (hq : QV S w vq q) (hlr : rl r 400000000000) (hlq : rl q 400000000000) :
    Gives Tryz.prog 43 [vr, .int .i64 e, vq] w fun v' w' => v' = .bool (tst ((Fits q ∧ e = 0 ∧ rstr r = rstr q) ∨ (¬ Fits q ∧ e = 11 ∧ r.num.sign = 0))) ∧ Ext w w' := by
  obtain ⟨mr, br, rfl, hmr, hbr⟩ := hr
  obtain ⟨mq, bq, rfl, hmq, hbq⟩ := hq
  refine gives_of Tryz.func43 rfl rfl rfl ?_
  have k : Ext w w := .refl
  repeat (first | refine wp_seq_region ?_ | refine wp_region ?_)
  refine r_box (cs := [.bool (tst (r.num < 0)), mr, br]) (by conv => (lhs; whnf)) rfl ?_
  intro w_1 g3 k_1 hg3 hs_1
  have hsg3 : w.heap.size ≤ g3 := Nat.le_trans k.size hs_1
  clear hs_1
  replace hS := hS.to k_1
  replace hmr := hmr.to k_1
  replace hbr := hbr.to k_1
  replace hmq := hmq.to k_1
  replace hbq := hbq.to k_1
  replace k := k.trans k_1
  clear k_1
  skip
  refine r_box (cs := [.bool (tst (q.num < 0)), mq, .bool (tst ((q.den : Int) < 0)), bq]) (by conv => (lhs; whnf)) rfl ?_
  intro w_2 g5 k_2 hg5 hs_2
  have hsg5 : w.heap.size ≤ g5 := Nat.le_trans k.size hs_2
  clear hs_2
  replace hS := hS.to k_2
  replace hmr := hmr.to k_2
  replace hbr := hbr.to k_2
  replace hmq := hmq.to k_2
  replace hbq := hbq.to k_2
  replace hg3 := hg3.to k_2
  replace k := k.trans k_2
  clear k_2
  repeat (first | refine r_load_all rfl hg5 rfl ?_ | refine wp_seq_region ?_ | refine wp_seq_seq ?_ | refine wp_region ?_ | refine r_assign (by conv => (lhs; whnf)) ?_ | refine r_nil ?_)
  refine r_call (zfits_c hS ⟨mq, bq, rfl, hmq, hbq⟩ (rl_mono hlq (by decide))) rfl ?_
  rintro v_3 w_3 ⟨rfl, k_3⟩
  replace hS := hS.to k_3
  replace hmr := hmr.to k_3
  replace hbr := hbr.to k_3
  replace hmq := hmq.to k_3
  replace hbq := hbq.to k_3
  replace hg3 := hg3.to k_3
  replace hg5 := hg5.to k_3
  replace k := k.trans k_3
  clear k_3
  repeat (first | refine r_nil ?_ | refine q_then ?_)
  refine wp_cond_dec rfl ?_ ?_ <;> intro hf
  · repeat (first | refine wp_seq_region ?_ | refine wp_region ?_ | refine r_move (by conv => (lhs; whnf)) ?_ | refine r_eql rfl rfl ?_)
    refine r_guard_split rfl rfl ?_ ?_ <;> intro he
    · repeat (first | refine r_load_all rfl hg3 rfl ?_ | refine r_load_all rfl hg5 rfl ?_ | refine r_guard_run rfl rfl ?_)
      refine r_call (is_l hS (ht.to k) ⟨mr, br, rfl, hmr, hbr⟩ ⟨mq, bq, rfl, hmq, hbq⟩ hlr hlq) rfl ?_
      rintro v_4 w_4 ⟨rfl, k_4⟩
      replace hS := hS.to k_4
      replace hmr := hmr.to k_4
      replace hbr := hbr.to k_4
      replace hmq := hmq.to k_4
      replace hbq := hbq.to k_4
      replace hg3 := hg3.to k_4
      replace hg5 := hg5.to k_4
      replace k := k.trans k_4
      clear k_4
      repeat (first | refine r_assign (by conv => (lhs; whnf)) ?_ | refine r_nil ?_ | refine q_then ?_ | refine wp_ret ?_ | refine q_then_ret ?_ | refine r_pick_true rfl (by conv => (lhs; whnf)) ?_)
      refine end_tmp rfl (by conv => (lhs; whnf)) ⟨congrArg Value.bool (tst_congr ?_), k⟩
      exact ⟨fun h => .inl ⟨hf, he, h⟩, fun h => h.elim (fun h => h.2.2) fun h => absurd hf h.1⟩
    · repeat (first | refine r_assign (by conv => (lhs; whnf)) ?_ | refine r_nil ?_ | refine q_then ?_ | refine wp_ret ?_ | refine q_then_ret ?_ | refine r_guard_skip rfl rfl rfl ?_ | refine r_pick_false rfl (by conv => (lhs; whnf)) ?_)
      refine end_tmp rfl (by conv => (lhs; whnf)) ⟨congrArg Value.bool (tst_false fun h => h.elim (fun h => he h.2.1) fun h => h.1 hf).symm, k⟩
  · repeat (first | refine wp_seq_region ?_ | refine wp_region ?_ | refine r_move (by conv => (lhs; whnf)) ?_ | refine wp_skip ?_ | refine r_eql rfl rfl ?_)
    refine r_guard_split rfl rfl ?_ ?_ <;> intro he
    · repeat (first | refine r_load_all rfl hg3 rfl ?_ | refine r_guard_run rfl rfl ?_)
      refine r_call (rsign_c (q := r) ⟨mr, br, rfl, hmr, hbr⟩) rfl ?_
      rintro v_4 w_4 ⟨rfl, k_4⟩
      replace hS := hS.to k_4
      replace hmr := hmr.to k_4
      replace hbr := hbr.to k_4
      replace hmq := hmq.to k_4
      replace hbq := hbq.to k_4
      replace hg3 := hg3.to k_4
      replace hg5 := hg5.to k_4
      replace k := k.trans k_4
      clear k_4
      repeat (first | refine r_assign (by conv => (lhs; whnf)) ?_ | refine r_nil ?_ | refine q_then ?_ | refine wp_ret ?_ | refine r_guard_run rfl rfl ?_ | refine r_pick_true rfl (by conv => (lhs; whnf)) ?_ | refine r_eql rfl rfl ?_)
      refine end_tmp rfl (by conv => (lhs; whnf)) ⟨congrArg Value.bool (tst_congr ?_), k⟩
      exact ⟨fun h => .inr ⟨hf, he, h⟩, fun h => h.elim (fun h => absurd h.1 hf) fun h => h.2.2⟩
    · repeat (first | refine r_assign (by conv => (lhs; whnf)) ?_ | refine r_nil ?_ | refine q_then ?_ | refine wp_ret ?_ | refine r_guard_skip rfl rfl rfl ?_ | refine r_pick_false rfl (by conv => (lhs; whnf)) ?_)
      refine end_tmp rfl (by conv => (lhs; whnf)) ⟨congrArg Value.bool (tst_false fun h => h.elim (fun h => hf h.1) fun h => he h.2.1).symm, k⟩
end Go.Proofs.YtpmnjjmngogkkaaGreatDoor
end

section
/- Facts that a symbolic run carries on: integers and fractions of both; calls that give them. -/
set_option linter.unusedVariables false
set_option linter.unusedSimpArgs false
namespace Go.Proofs.YtpmnjjmngogkkaaGreatDoor
open Go Go.RowKit

abbrev ratG (v : Value) (q : Rat) : Gh := ⟨fun S w => RatV S w v q, fun h k => h.keep k, fun h k => h.mono k⟩
abbrev qG (v : Value) (q : Rat) : Gh := ⟨fun S w => QV S w v q, fun h k => h.keep k, fun h k => h.mono k⟩
abbrev intG (v : Value) (z : Int) : Gh := ⟨fun S w => IntV S 127 .u32 w v z, fun h k => h.keep k, fun h k => h.mono k⟩
abbrev zG (v : Value) (z : Int) : Gh := ⟨fun S w => ZV S w v z, fun h k => h.keep k, fun h k => h.mono k⟩
theorem RatV.ok {S : Nat → Prop} {w : World} {v : Value} {q : Rat} (h : RatV S w v q) : (SV.one (.ag 3 v)).Ok 0 := by
  obtain ⟨m, b, rfl, hm, hb⟩ := h
  exact ⟨[_, m, b], rfl, rfl, ones3 rfl hm.one hb.one⟩
theorem QV.ok {S : Nat → Prop} {w : World} {v : Value} {q : Rat} (h : QV S w v q) : (SV.one (.ag 4 v)).Ok 0 := by
  obtain ⟨m, b, rfl, hm, hb⟩ := h
  exact ⟨[_, m, _, b], rfl, rfl, ones4 rfl hm.one rfl hb.one⟩
theorem IntV.ok {S : Nat → Prop} {T : TypeId} {k : IntKind} {w : World} {v : Value} {z : Int} (h : IntV S T k w v z) : (SV.one (.ag 2 v)).Ok 0 := by
  obtain ⟨m, rfl, hm⟩ := h
  exact ⟨[_, m], rfl, rfl, ones2 rfl hm.one⟩
theorem gK {P : Program} {f : FuncId} {args : List Value} {w : World} {X Y : Value} (h : Gives P f args w fun v w' => v = X ∧ Ext w w') (e : X = Y) : Gives P f args w fun v w' => v = Y ∧ Ext w w' := e ▸ h
/-- Two parts, three parts of a result. -/
abbrev pr (x y : Ch) : SV := .tup [(false, [x]), (false, [y])]
abbrev pr3 (x y z : Ch) : SV := .tup [(false, [x]), (false, [y]), (false, [z])]
theorem ok_pr {m : Nat} {x y : Ch} (hx : x.Ok m) (hy : y.Ok m) : (pr x y).Ok m := fun p hp c hc => by
  simp only [List.mem_cons, List.not_mem_nil, or_false] at hp
  rcases hp with rfl | rfl <;> (simp only [List.mem_singleton] at hc; subst hc; assumption)
theorem ok_pr3 {m : Nat} {x y z : Ch} (hx : x.Ok m) (hy : y.Ok m) (hz : z.Ok m) : (pr3 x y z).Ok m := fun p hp c hc => by
  simp only [List.mem_cons, List.not_mem_nil, or_false] at hp
  rcases hp with rfl | rfl | rfl <;> (simp only [List.mem_singleton] at hc; subst hc; assumption)
theorem fits_rl {q : Rat} {n : Nat} (hr : rl q n) (hn : n ≤ 3344) : Fits q :=
  ⟨Nat.lt_of_lt_of_le (lt_pow_dl _) (Nat.le_trans (pow_mono_b (Nat.le_trans hr.1 hn)) big_low), Nat.lt_of_lt_of_le (lt_pow_dl _) (Nat.le_trans (pow_mono_b (Nat.le_trans hr.2 hn)) big_low)⟩
theorem big_zl {z : Int} (hf : zl z ≤ 3344) : z.natAbs < Big := Nat.lt_of_lt_of_le (lt_pow_dl _) (Nat.le_trans (pow_mono_b hf) big_low)
section
variable {c : Cx} {o : Out} {G : Gh} {f : FuncId} [ci : CallI c.P f]
/-- A call that gives a fraction, or the error and 0. -/
theorem s_try {q : Rat} (hc : c.Ok) (hv : (ex c o).vc = []) (hf : isCall f (ex c o) = true)
    (h : ∀ β S w, Up S w → (∀ k, S k → c.S0 k) → Ext c.w0 w → G.p S w → ∃ args, (callArgs (ex c o)).map (SV.den β) = args ∧ Gives c.P f args w fun v w' => Ext w w' ∧ Tried S w' v q)
    (hn : ∀ x e r, DoneOk r e q → Run c (callNext (ex c o) (pr (.ag 3 x) (.int .i64 e))) ((ratG x r).and G)) : Run c o G :=
  s_p (fun a : Value × Int × Rat => pr (.ag 3 a.1) (.int .i64 a.2.1)) (fun a => DoneOk a.2.2 a.2.1 q) (fun a => ratG a.1 a.2.2) hc hv hf (fun β S w h1 h2 h3 h4 => let ⟨args, ha, hg⟩ := h β S w h1 h2 h3 h4
    ⟨args, ha, hg.mono fun v w' ⟨hk, r, e, hv, ht⟩ => ⟨hk, by
      rcases ht with ⟨g1, rfl, g3⟩ | ⟨g1, rfl, g3⟩
      · exact ⟨(r, 0, q), hv, ok_pr g3.ok trivial, .inl ⟨g1, rfl, rfl⟩, g3⟩
      · exact ⟨(r, 11, 0), hv, ok_pr g3.ok trivial, .inr ⟨g1, rfl, rfl⟩, g3⟩⟩⟩) fun a hp => hn a.1 a.2.1 a.2.2 hp
/-- The same, where it fits. -/
theorem s_fit {q : Rat} (hfit : Fits q) (hc : c.Ok) (hv : (ex c o).vc = []) (hf : isCall f (ex c o) = true)
    (h : ∀ β S w, Up S w → (∀ k, S k → c.S0 k) → Ext c.w0 w → G.p S w → ∃ args, (callArgs (ex c o)).map (SV.den β) = args ∧ Gives c.P f args w fun v w' => Ext w w' ∧ Tried S w' v q)
    (hn : ∀ x, Run c (callNext (ex c o) (pr (.ag 3 x) (.lit .i64 0))) ((ratG x q).and G)) : Run c o G :=
  s_p (fun a : Value => pr (.ag 3 a) (.lit .i64 0)) (fun a => True) (fun a => ratG a q) hc hv hf (fun β S w h1 h2 h3 h4 => let ⟨args, ha, hg⟩ := h β S w h1 h2 h3 h4
    ⟨args, ha, hg.mono fun v w' ⟨hk, r, e, hv, ht⟩ => ⟨hk, by
      rcases ht with ⟨g1, rfl, g3⟩ | ⟨g1, rfl, g3⟩
      · exact ⟨r, hv, ok_pr g3.ok trivial, trivial, g3⟩
      · exact absurd hfit g1⟩⟩) fun a _ => hn a
/-- A call that gives an integer that fits. -/
theorem s_ifit {z : Int} (hfit : z.natAbs < Big) (hc : c.Ok) (hv : (ex c o).vc = []) (hf : isCall f (ex c o) = true)
    (h : ∀ β S w, Up S w → (∀ k, S k → c.S0 k) → Ext c.w0 w → G.p S w → ∃ args, (callArgs (ex c o)).map (SV.den β) = args ∧ Gives c.P f args w fun v w' => Ext w w' ∧ ITried S w' v z)
    (hn : ∀ x, Run c (callNext (ex c o) (pr (.ag 2 x) (.lit .i64 0))) ((intG x z).and G)) : Run c o G :=
  s_p (fun a : Value => pr (.ag 2 a) (.lit .i64 0)) (fun a => True) (fun a => intG a z) hc hv hf (fun β S w h1 h2 h3 h4 => let ⟨args, ha, hg⟩ := h β S w h1 h2 h3 h4
    ⟨args, ha, hg.mono fun v w' ⟨hk, r, e, hv, ht⟩ => ⟨hk, by
      rcases ht with ⟨g1, rfl, g3⟩ | ⟨g1, rfl, g3⟩
      · exact ⟨r, hv, ok_pr g3.ok trivial, trivial, g3⟩
      · exact absurd hfit g1⟩⟩) fun a _ => hn a
/-- The readings of strings, with both. -/
theorem s_ratio {most : Nat} (hc : c.Ok) (hv : (ex c o).vc = []) (hf : isCall f (ex c o) = true)
    (h : ∀ β S w, Up S w → (∀ k, S k → c.S0 k) → Ext c.w0 w → G.p S w → ∃ args, (callArgs (ex c o)).map (SV.den β) = args ∧ Gives c.P f args w fun v' w' => ∃ va vq q, v' = .tuple #[va, vq] ∧ Ext w w' ∧ (rstr q).length ≤ most ∧ RatV S w' va q ∧ QV S w' vq q)
    (hn : ∀ va vq q, (rstr q).length ≤ most → Run c (callNext (ex c o) (pr (.ag 3 va) (.ag 4 vq))) (((ratG va q).and (qG vq q)).and G)) : Run c o G :=
  s_p (fun a : Value × Value × Rat => pr (.ag 3 a.1) (.ag 4 a.2.1)) (fun a => (rstr a.2.2).length ≤ most) (fun a => (ratG a.1 a.2.2).and (qG a.2.1 a.2.2)) hc hv hf (fun β S w h1 h2 h3 h4 => let ⟨args, ha, hg⟩ := h β S w h1 h2 h3 h4
    ⟨args, ha, hg.mono fun v w' ⟨va, vq, q, hv, hk, hl, ha, hq⟩ => ⟨hk, (va, vq, q), hv, ok_pr ha.ok hq.ok, hl, ha, hq⟩⟩) fun a hp => hn a.1 a.2.1 a.2.2 hp
theorem s_one {most : Nat} (hc : c.Ok) (hv : (ex c o).vc = []) (hf : isCall f (ex c o) = true)
    (h : ∀ β S w, Up S w → (∀ k, S k → c.S0 k) → Ext c.w0 w → G.p S w → ∃ args, (callArgs (ex c o)).map (SV.den β) = args ∧ Gives c.P f args w fun v' w' => ∃ va vz z, v' = .tuple #[va, vz] ∧ Ext w w' ∧ (Lib.itoa z).length ≤ most ∧ IntV S 127 .u32 w' va z ∧ ZV S w' vz z)
    (hn : ∀ va vz z, (Lib.itoa z).length ≤ most → Run c (callNext (ex c o) (pr (.ag 2 va) (.ag 2 vz))) (((intG va z).and (zG vz z)).and G)) : Run c o G :=
  s_p (fun a : Value × Value × Int => pr (.ag 2 a.1) (.ag 2 a.2.1)) (fun a => (Lib.itoa a.2.2).length ≤ most) (fun a => (intG a.1 a.2.2).and (zG a.2.1 a.2.2)) hc hv hf (fun β S w h1 h2 h3 h4 => let ⟨args, ha, hg⟩ := h β S w h1 h2 h3 h4
    ⟨args, ha, hg.mono fun v w' ⟨va, vq, q, hv, hk, hl, ha, hq⟩ => ⟨hk, (va, vq, q), hv, ok_pr ha.ok hq.ok, hl, ha, hq⟩⟩) fun a hp => hn a.1 a.2.1 a.2.2 hp
/-- A quotient with rest. -/
theorem s_idiv {a b : Int} (hc : c.Ok) (hv : (ex c o).vc = []) (hf : isCall f (ex c o) = true)
    (h : ∀ β S w, Up S w → (∀ k, S k → c.S0 k) → Ext c.w0 w → G.p S w → ∃ args, (callArgs (ex c o)).map (SV.den β) = args ∧ Gives c.P f args w fun v' w' => ∃ vq vr, v' = .tuple #[vq, vr, .int .i64 0] ∧ Ext w w' ∧ IntV S 127 .u32 w' vq a ∧ IntV S 127 .u32 w' vr b)
    (hn : ∀ vq vr, Run c (callNext (ex c o) (pr3 (.ag 2 vq) (.ag 2 vr) (.lit .i64 0))) (((intG vq a).and (intG vr b)).and G)) : Run c o G :=
  s_p (fun x : Value × Value => pr3 (.ag 2 x.1) (.ag 2 x.2) (.lit .i64 0)) (fun _ => True) (fun x => (intG x.1 a).and (intG x.2 b)) hc hv hf (fun β S w h1 h2 h3 h4 => let ⟨args, ha, hg⟩ := h β S w h1 h2 h3 h4
    ⟨args, ha, hg.mono fun v w' ⟨vq, vr, hv, hk, hq, hr⟩ => ⟨hk, (vq, vr), hv, ok_pr3 hq.ok hr.ok trivial, trivial, hq, hr⟩⟩) fun a _ => hn a.1 a.2
end
end Go.Proofs.YtpmnjjmngogkkaaGreatDoor
end
