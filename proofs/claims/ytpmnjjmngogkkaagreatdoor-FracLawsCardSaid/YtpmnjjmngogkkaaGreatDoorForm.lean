/- The reference's fractions as strings; the statements' own tests of equality. -/
import Derived.Test.YtpmnjjmngogkkaaGreatDoorRef6
import Derived.Test.YtpmnjjmngogkkaaGreatDoorRefS
import Derived.Test.YtpmnjjmngogkkaaGreatDoorVec2
import Derived.Test.YtpmnjjmngogkkaaGreatDoorEq
set_option linter.unusedVariables false
set_option linter.unusedSimpArgs false
namespace Go.Proofs.YtpmnjjmngogkkaaGreatDoor
open Go Go.RowKit

theorem itoa_nat (n : Nat) : Lib.itoa (n : Int) = Lib.decDigits n := by
  unfold Lib.itoa
  rw [if_neg (by omega), show ((n : Int)).toNat = n from rfl]
theorem zform_c {S : Nat → Prop} {w : World} {v : Value} {q : Rat} (hS : Up S w) (h : QV S w v q) (hl : rl q 400000000000) :
    Gives Tryz.prog 87 [v] w fun v' w' => v' = strV (rstr q) ∧ Ext w w' := by
  obtain ⟨m, b, rfl, hm, hb⟩ := h
  obtain ⟨hl1, hl2⟩ := hl
  have hz : zl (q.den : Int) ≤ 400000000000 := by unfold zl; rw [Int.natAbs_natCast]; exact hl2
  have hn1 := nDigits_le_dl _ hl1
  have hn2 := nDigits_le_dl _ hl2
  have hi := itoa_length q.num
  refine gives_of Tryz.func87 rfl rfl rfl ?_
  repeat (first | refine wp_seq_region ?_ | refine wp_region ?_)
  refine r_box (cs := [.bool (tst (q.num < 0)), m, .bool (tst ((q.den : Int) < 0)), b]) (by conv => (lhs; whnf)) rfl ?_
  intro w1 g k1 hg hgs
  replace hm := hm.to k1
  replace hb := hb.to k1
  replace hS := hS.to k1
  repeat (first | refine wp_seq_region ?_ | refine wp_seq_seq ?_ | refine r_assign (by conv => (lhs; whnf)) ?_ | refine r_nil ?_)
  refine wp_drawn 4 (by kernel_rfl) (by kernel_rfl) ?_
  apply ob_step
  · intro x w1 k1 hd
    refine r_field rfl ?_
    refine r_nil ?_
    exact ob_eq
  apply ob_step
  · intro x w1 k1 hd
    refine r_load_part rfl (hg.to k1) rfl rfl ?_
    refine r_nil ?_
    exact ob_eq
  refine ob_step (e := zE S 1) ?_ ?_
  · intro x w1 k1 hd
    refine r_call (zof_c (z := 1) (hS.to k1) (by decide) (by decide)) rfl ?_
    rintro v2 w2 ⟨k2, h2⟩
    exact r_nil (ob_of k2 h2)
  refine ob_step (e := Ent.eq (.int .i64 ((q.den : Int) - 1).sign)) ?_ ?_
  · intro x w1 k1 hd
    refine r_call (zcmp_c (a := (q.den : Int)) (b := 1) (hS.to k1) ⟨b, rfl, hb.to k1⟩ hd.1 (by omega) (Nat.le_trans (dl_le (k := 1) (by decide)) (by decide))) rfl ?_
    rintro v2 w2 ⟨rfl, k2⟩
    exact r_nil (ob_eq_to k2)
  refine ob_nil (ob_end ?_)
  intro x w2 k2 _
  replace hm := hm.to k2
  replace hb := hb.to k2
  replace hg := hg.to k2
  have k := k1.trans k2
  have hd1 : q.den = 1 ↔ ((q.den : Int) - 1).sign = 0 := by rw [Int.sign_eq_zero_iff_zero]; omega
  clear k1 k2
  repeat (first | refine r_nil ?_ | refine q_then ?_ | refine r_eql rfl rfl ?_)
  try refine wp_seq_cond ?_
  refine wp_cond_dec rfl ?_ ?_ <;> intro hc
  · repeat (first | refine r_load_part rfl hg rfl rfl ?_ | refine wp_seq_region ?_ | refine wp_region ?_ | refine r_field rfl ?_)
    refine r_call (zstr_c (z := q.num) ⟨m, rfl, hm⟩ (by unfold zl; omega)) rfl ?_
    rintro v3 w3 ⟨rfl, k3⟩
    repeat (first | refine r_assign (by conv => (lhs; whnf)) ?_ | refine r_nil ?_ | refine q_then ?_ | refine wp_ret ?_ | refine q_then_ret ?_)
    refine end_tmp rfl (by conv => (lhs; whnf)) ⟨?_, k.trans k3⟩
    unfold rstr
    rw [if_pos (hd1.2 hc), List.append_nil]
  · repeat (first | refine wp_seq_region ?_ | refine wp_skip ?_)
    refine wp_drawn 8 (by kernel_rfl) (by kernel_rfl) ?_
    apply ob_step
    · intro x w1 k1 hd
      refine r_field rfl ?_
      refine r_nil ?_
      exact ob_eq
    apply ob_step
    · intro x w1 k1 hd
      refine r_load_part rfl (hg.to k1) rfl rfl ?_
      refine r_nil ?_
      exact ob_eq
    refine ob_step (e := Ent.eq (strV (Lib.itoa q.num))) ?_ ?_
    · intro x w1 k1 hd
      refine r_call (zstr_c (z := q.num) ⟨m, rfl, hm.to k1⟩ (by unfold zl; omega)) rfl ?_
      rintro v2 w2 ⟨rfl, k2⟩
      exact r_nil (ob_eq_to k2)
    apply ob_step
    · intro x w1 k1 hd
      refine r_cat (b := [47]) rfl rfl (by simp; omega) ?_
      refine r_nil ?_
      exact ob_eq
    apply ob_step
    · intro x w1 k1 hd
      refine r_field rfl ?_
      refine r_nil ?_
      exact ob_eq
    apply ob_step
    · intro x w1 k1 hd
      refine r_load_part rfl (hg.to k1) rfl rfl ?_
      refine r_nil ?_
      exact ob_eq
    refine ob_step (e := Ent.eq (strV (Lib.itoa (q.den : Int)))) ?_ ?_
    · intro x w1 k1 hd
      refine r_call (zstr_c (z := (q.den : Int)) ⟨b, rfl, hb.to k1⟩ (by omega)) rfl ?_
      rintro v2 w2 ⟨rfl, k2⟩
      exact r_nil (ob_eq_to k2)
    apply ob_step
    · intro x w1 k1 hd
      refine r_cat rfl rfl (by rw [itoa_nat, Lib.decDigits_length]; simp; omega) ?_
      refine r_nil ?_
      exact ob_eq
    refine ob_nil (ob_end ?_)
    intro x3 w3 k3 _
    repeat (first | refine r_assign (by conv => (lhs; whnf)) ?_ | refine r_nil ?_ | refine q_then ?_ | refine wp_ret ?_)
    refine end_tmp rfl (by conv => (lhs; whnf)) ⟨?_, k.trans k3⟩
    unfold rstr
    rw [if_neg (fun h => hc (hd1.1 h)), itoa_nat, List.append_assoc]
    rfl

theorem whole_l {S : Nat → Prop} {w : World} {va vz : Value} {a z : Int} (hS : Up S w) (ht : Tab w) (ha : IntV S 127 .u32 w va a) (hz : ZV S w vz z) (hla : zl a ≤ 400000000000) (hlz : zl z ≤ 400000000000) :
    Gives Tryz.prog 12 [va, vz] w fun v' w' => v' = .bool (tst (Lib.itoa a = Lib.itoa z)) ∧ Ext w w' := by
  obtain ⟨ma, rfl, hma⟩ := ha
  obtain ⟨mz, rfl, hmz⟩ := hz
  refine gives_of Tryz.func12 rfl rfl rfl ?_
  repeat (first | refine wp_seq_region ?_ | refine wp_region ?_)
  refine r_box (cs := [.bool (tst (a < 0)), ma]) (by conv => (lhs; whnf)) rfl ?_
  intro w1 ga k1 hga hgsa
  skip
  refine r_box (cs := [.bool (tst (z < 0)), mz]) (by conv => (lhs; whnf)) rfl ?_
  intro w2 gb k2 hgb hgsb
  replace hga := hga.to k2
  have k := k1.trans k2
  replace hma := hma.to k
  replace hmz := hmz.to k
  replace ht := ht.to k
  clear k1 k2
  repeat (first | refine wp_seq_region ?_ | refine r_assign (by conv => (lhs; whnf)) ?_ | refine r_nil ?_)
  refine wp_drawn 5 (by kernel_rfl) (by kernel_rfl) ?_
  apply ob_step
  · intro x w1 k1 hd
    refine r_load_all rfl (hga.to k1) rfl ?_
    refine r_nil ?_
    exact ob_eq
  refine ob_step (e := Ent.eq (strV (Lib.itoa a))) ?_ ?_
  · intro x w1 k1 hd
    refine r_call (istr_c (ht.to k1) ⟨ma, rfl, hma.to k1⟩ (by omega)) rfl ?_
    rintro v2 w2 ⟨rfl, k2⟩
    exact r_nil (ob_eq_to k2)
  apply ob_step
  · intro x w1 k1 hd
    refine r_load_all rfl (hgb.to k1) rfl ?_
    refine r_nil ?_
    exact ob_eq
  refine ob_step (e := Ent.eq (strV (Lib.itoa z))) ?_ ?_
  · intro x w1 k1 hd
    refine r_call (zstr_c ⟨mz, rfl, hmz.to k1⟩ (by omega)) rfl ?_
    rintro v2 w2 ⟨rfl, k2⟩
    exact r_nil (ob_eq_to k2)
  apply ob_step
  · intro x w1 k1 hd
    refine r_eqlS rfl rfl ?_
    refine r_nil ?_
    exact ob_eq
  refine ob_nil (ob_end ?_)
  intro x w3 k3 _
  repeat (first | refine r_assign (by conv => (lhs; whnf)) ?_ | refine r_nil ?_ | refine q_then ?_ | refine wp_ret ?_)
  exact end_tmp rfl (by conv => (lhs; whnf)) ⟨rfl, k.trans k3⟩
theorem is_l {S : Nat → Prop} {w : World} {va vz : Value} {a q : Rat} (hS : Up S w) (ht : Tab w) (ha : RatV S w va a) (hq : QV S w vz q) (hla : rl a 400000000000) (hlq : rl q 400000000000) :
    Gives Tryz.prog 21 [va, vz] w fun v' w' => v' = .bool (tst (rstr a = rstr q)) ∧ Ext w w' := by
  have ha0 := ha
  have hq0 := hq
  obtain ⟨ma, ba, rfl, hma, hba⟩ := ha
  obtain ⟨mq, bq, rfl, hmq, hbq⟩ := hq
  refine gives_of Tryz.func21 rfl rfl rfl ?_
  repeat (first | refine wp_seq_region ?_ | refine wp_region ?_)
  refine r_box (cs := [.bool (tst (a.num < 0)), ma, ba]) (by conv => (lhs; whnf)) rfl ?_
  intro w1 ga k1 hga hgsa
  skip
  refine r_box (cs := [.bool (tst (q.num < 0)), mq, .bool (tst ((q.den : Int) < 0)), bq]) (by conv => (lhs; whnf)) rfl ?_
  intro w2 gb k2 hgb hgsb
  replace hga := hga.to k2
  have k := k1.trans k2
  replace ha0 := ha0.to k
  replace hq0 := hq0.to k
  replace ht := ht.to k
  replace hS := hS.to k
  clear k1 k2
  repeat (first | refine wp_seq_region ?_ | refine r_assign (by conv => (lhs; whnf)) ?_ | refine r_nil ?_)
  refine wp_drawn 5 (by kernel_rfl) (by kernel_rfl) ?_
  apply ob_step
  · intro x w1 k1 hd
    refine r_load_all rfl (hga.to k1) rfl ?_
    refine r_nil ?_
    exact ob_eq
  refine ob_step (e := Ent.eq (strV (rstr a))) ?_ ?_
  · intro x w1 k1 hd
    refine r_call (rstr_c (ht.to k1) (ha0.to k1) hla) rfl ?_
    rintro v2 w2 ⟨rfl, k2⟩
    exact r_nil (ob_eq_to k2)
  apply ob_step
  · intro x w1 k1 hd
    refine r_load_all rfl (hgb.to k1) rfl ?_
    refine r_nil ?_
    exact ob_eq
  refine ob_step (e := Ent.eq (strV (rstr q))) ?_ ?_
  · intro x w1 k1 hd
    refine r_call (zform_c (hS.to k1) (hq0.to k1) hlq) rfl ?_
    rintro v2 w2 ⟨rfl, k2⟩
    exact r_nil (ob_eq_to k2)
  apply ob_step
  · intro x w1 k1 hd
    refine r_eqlS rfl rfl ?_
    refine r_nil ?_
    exact ob_eq
  refine ob_nil (ob_end ?_)
  intro x w3 k3 _
  repeat (first | refine r_assign (by conv => (lhs; whnf)) ?_ | refine r_nil ?_ | refine q_then ?_ | refine wp_ret ?_)
  exact end_tmp rfl (by conv => (lhs; whnf)) ⟨rfl, k.trans k3⟩
end Go.Proofs.YtpmnjjmngogkkaaGreatDoor
