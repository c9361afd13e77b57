/- LWholes LMakes PMakes PWholes -/
import Derived.Test.YtpmnjjmngogkkaaGreatDoorWholesA1
import Derived.Test.YtpmnjjmngogkkaaGreatDoorForm
import Derived.Test.YtpmnjjmngogkkaaGreatDoorCards
import Derived.Test.YtpmnjjmngogkkaaGreatDoorTie
import Derived.ProofKit
import Derived.LaidMore
import Derived.OpenShut
import Derived.Stop.Joined
import Derived.SevenTiedAt
import Derived.Lay
section
/- The statement FracWholes: whatever two strings come in, it returns true. -/
set_option linter.unusedVariables false
set_option linter.unusedSimpArgs false
namespace Go.Proofs.YtpmnjjmngogkkaaGreatDoor
open Go Go.RowKit

theorem fits_zl {z : Int} (h : zl z ≤ 3344) : z.natAbs < Big := Nat.lt_of_lt_of_le (lt_pow_dl _) (Nat.le_trans (pow_mono_b h) big_low)
theorem itried_fits {S : Nat → Prop} {w : World} {v : Value} {z : Int} (h : ITried S w v z) (hf : zl z ≤ 3344) : ∃ m, v = .tuple #[.agg #[.bool (tst (z < 0)), m], .int .i64 0] ∧ NatV S 127 .u32 w m z.natAbs := by
  obtain ⟨r, e, rfl, ⟨_, rfl, m, rfl, hm⟩ | ⟨h, _⟩⟩ := h
  · exact ⟨m, rfl, hm⟩
  · exact absurd (fits_zl hf) h

set_option maxRecDepth 100000 in
set_option maxHeartbeats 8000000 in
theorem fracWholes_c {w : World} {s t : List UInt8} (ht : Tab w) (hs : s.length ≤ 140737488351232) (hu : t.length ≤ 140737488351232) :
    Gives Tryz.prog 4 [strV s, strV t] w fun v' w' => v' = .bool true ∧ Ext w w' := by
  refine gives_of Tryz.func4 rfl rfl rfl ?_
  repeat (first | refine wp_seq_region ?_ | refine wp_region ?_ | refine r_move (by conv => (lhs; whnf)) ?_ | refine r_assign (by conv => (lhs; whnf)) ?_ | refine r_nil ?_)
  refine r_call (one_l (S := All) (s := s) (most := 700) Up.all hs (by decide) (by decide)) rfl ?_
  rintro v1 w1 ⟨va, vz, zx, rfl, k, hxl, ⟨ma, rfl, ha⟩, ⟨mx, rfl, hx⟩⟩
  repeat (first | refine r_move (by conv => (lhs; whnf)) ?_ | refine r_extract rfl rfl ?_)
  refine r_new2 rfl (zs := [.bool false, .slice none 0 0]) (zs2 := [.bool false, .slice none 0 0]) (us := [.bool (tst (zx < 0)), ma]) (us2 := [.bool (tst (zx < 0)), mx]) rfl rfl (fun _ _ => rfl) (fun _ _ => rfl) rfl rfl rfl rfl (ones2 rfl ha.one) (ones2 rfl hx.one) ?_
  intro w2 g5 g6 k2 _ _ _ h5 h6
  replace ha := ha.to k2
  replace hx := hx.to k2
  replace k := k.trans k2
  clear k2
  repeat (first | refine wp_seq_region ?_ | refine wp_region ?_ | refine r_move (by conv => (lhs; whnf)) ?_ | refine r_nil ?_)
  refine r_call (one_l (S := All) (s := t) (most := 700) Up.all hu (by decide) (by decide)) rfl ?_
  rintro v3 w3 ⟨vb, vy, zy, rfl, k3, hyl, ⟨mb, rfl, hb⟩, ⟨my, rfl, hy⟩⟩
  replace ha := ha.to k3
  replace hx := hx.to k3
  replace h5 := h5.to k3
  replace h6 := h6.to k3
  replace k := k.trans k3
  clear k3
  repeat (first | refine r_move (by conv => (lhs; whnf)) ?_ | refine r_extract rfl rfl ?_)
  refine r_new2 rfl (zs := [.bool false, .slice none 0 0]) (zs2 := [.bool false, .slice none 0 0]) (us := [.bool (tst (zy < 0)), mb]) (us2 := [.bool (tst (zy < 0)), my]) rfl rfl (fun _ _ => rfl) (fun _ _ => rfl) rfl rfl rfl rfl (ones2 rfl hb.one) (ones2 rfl hy.one) ?_
  intro w4 g7 g8 k4 _ _ _ h7 h8
  replace ha := ha.to k4
  replace hx := hx.to k4
  replace h5 := h5.to k4
  replace h6 := h6.to k4
  replace hb := hb.to k4
  replace hy := hy.to k4
  replace k := k.trans k4
  clear k4
  have lx : zl zx ≤ 78 := zl_small hxl (by omega)
  have ly : zl zy ≤ 78 := zl_small hyl (by omega)
  have ls := zl_add zx zy
  have ld := zl_sub zx zy
  have lm := zl_mul zx zy
  repeat (first | refine r_load_all rfl h5 rfl ?_ | refine r_load_all rfl h7 rfl ?_ | refine wp_seq_region ?_ | refine wp_region ?_ | refine r_nil ?_)
  refine r_call (iadd_c (S := All) (a := zx) (b := zy) Up.all ⟨ma, rfl, ha⟩ ⟨mb, rfl, hb⟩ (by omega) (by omega)) rfl ?_
  rintro v5 w5 ⟨k5, hp0⟩
  obtain ⟨mp, rfl, hp⟩ := itried_fits hp0 (by omega)
  clear hp0
  replace ha := ha.to k5
  replace hx := hx.to k5
  replace h5 := h5.to k5
  replace h6 := h6.to k5
  replace hb := hb.to k5
  replace hy := hy.to k5
  replace h7 := h7.to k5
  replace h8 := h8.to k5
  replace k := k.trans k5
  clear k5
  repeat (first | refine r_move (by conv => (lhs; whnf)) ?_ | refine r_extract rfl rfl ?_)
  refine r_new (zs := [.bool false, .slice none 0 0]) (us := [.bool (tst (zx + zy < 0)), mp]) rfl (fun _ => rfl) rfl rfl (ones2 rfl hp.one) ?_
  intro w6 g9 k6 _ h9
  replace ha := ha.to k6
  replace hx := hx.to k6
  replace h5 := h5.to k6
  replace h6 := h6.to k6
  replace hb := hb.to k6
  replace hy := hy.to k6
  replace h7 := h7.to k6
  replace h8 := h8.to k6
  replace hp := hp.to k6
  replace k := k.trans k6
  clear k6
  repeat (first | refine r_load_all rfl h5 rfl ?_ | refine r_load_all rfl h7 rfl ?_ | refine wp_seq_region ?_ | refine wp_region ?_ | refine r_assign (by conv => (lhs; whnf)) ?_ | refine r_nil ?_)
  refine r_call (isub_c (S := All) (a := zx) (b := zy) Up.all ⟨ma, rfl, ha⟩ ⟨mb, rfl, hb⟩ (by omega) (by omega)) rfl ?_
  rintro v7 w7 ⟨k7, hq0⟩
  obtain ⟨mq, rfl, hq⟩ := itried_fits hq0 (by omega)
  clear hq0
  replace ha := ha.to k7
  replace hx := hx.to k7
  replace h5 := h5.to k7
  replace h6 := h6.to k7
  replace hb := hb.to k7
  replace hy := hy.to k7
  replace h7 := h7.to k7
  replace h8 := h8.to k7
  replace hp := hp.to k7
  replace h9 := h9.to k7
  replace k := k.trans k7
  clear k7
  repeat (first | refine r_move (by conv => (lhs; whnf)) ?_ | refine r_extract rfl rfl ?_)
  refine r_new (zs := [.bool false, .slice none 0 0]) (us := [.bool (tst (zx - zy < 0)), mq]) rfl (fun _ => rfl) rfl rfl (ones2 rfl hq.one) ?_
  intro w8 g11 k8 _ h11
  replace ha := ha.to k8
  replace hx := hx.to k8
  replace h5 := h5.to k8
  replace h6 := h6.to k8
  replace hb := hb.to k8
  replace hy := hy.to k8
  replace h7 := h7.to k8
  replace h8 := h8.to k8
  replace hp := hp.to k8
  replace h9 := h9.to k8
  replace hq := hq.to k8
  replace k := k.trans k8
  clear k8
  repeat (first | refine r_load_all rfl h5 rfl ?_ | refine r_load_all rfl h7 rfl ?_ | refine wp_seq_region ?_ | refine wp_region ?_ | refine r_assign (by conv => (lhs; whnf)) ?_ | refine r_nil ?_)
  refine r_call (imul_c (S := All) (a := zx) (b := zy) Up.all ⟨ma, rfl, ha⟩ ⟨mb, rfl, hb⟩ (by omega) (by omega)) rfl ?_
  rintro v9 w9 ⟨k9, hr0⟩
  obtain ⟨mr, rfl, hr⟩ := itried_fits hr0 (by omega)
  clear hr0
  replace ha := ha.to k9
  replace hx := hx.to k9
  replace h5 := h5.to k9
  replace h6 := h6.to k9
  replace hb := hb.to k9
  replace hy := hy.to k9
  replace h7 := h7.to k9
  replace h8 := h8.to k9
  replace hp := hp.to k9
  replace h9 := h9.to k9
  replace hq := hq.to k9
  replace h11 := h11.to k9
  replace k := k.trans k9
  clear k9
  repeat (first | refine r_move (by conv => (lhs; whnf)) ?_ | refine r_extract rfl rfl ?_)
  refine r_new (zs := [.bool false, .slice none 0 0]) (us := [.bool (tst (zx * zy < 0)), mr]) rfl (fun _ => rfl) rfl rfl (ones2 rfl hr.one) ?_
  intro w10 g13 k10 _ h13
  replace ha := ha.to k10
  replace hx := hx.to k10
  replace h5 := h5.to k10
  replace h6 := h6.to k10
  replace hb := hb.to k10
  replace hy := hy.to k10
  replace h7 := h7.to k10
  replace h8 := h8.to k10
  replace hp := hp.to k10
  replace h9 := h9.to k10
  replace hq := hq.to k10
  replace h11 := h11.to k10
  replace hr := hr.to k10
  replace k := k.trans k10
  clear k10
  have ht10 := ht.to k
  have lg : zl ((Int.gcd zx zy : Nat) : Int) ≤ 78 := by
    unfold zl
    rw [Int.natAbs_natCast]
    by_cases h0 : zx = 0
    · subst h0
      rw [Int.gcd_zero_left]
      exact ly
    · exact Nat.le_trans (dl_mono (Nat.gcd_le_left _ (by omega))) lx
  repeat (first | refine wp_seq_region ?_ | refine wp_seq_seq ?_ | refine r_assign (by conv => (lhs; whnf)) ?_ | refine r_nil ?_)
  refine wp_drawn 52 (by kernel_rfl) (by kernel_rfl) ?_
  apply ob_step
  · intro x w1 k1 hd
    refine r_move (by conv => (lhs; whnf)) ?_
    refine r_nil ?_
    exact ob_eq
  refine ob_step (e := Ent.eq (.bool false)) ?_ ?_
  · intro x w1 k1 hd
    refine r_neq rfl rfl ?_
    refine r_nil ?_
    exact ob_eqv (congrArg Value.bool (tst_false (fun h => h rfl))) .refl
  apply ob_step
  · intro x w1 k1 hd
    refine r_move (by conv => (lhs; whnf)) ?_
    refine r_nil ?_
    exact ob_eq
  apply ob_step
  · intro x w1 k1 hd
    refine r_guard_run rfl rfl ?_
    refine r_move (by conv => (lhs; whnf)) ?_
    refine r_nil ?_
    exact ob_eq
  refine ob_step (e := Ent.eq (.bool false)) ?_ ?_
  · intro x w1 k1 hd
    refine r_guard_run rfl rfl ?_
    refine r_neq rfl rfl ?_
    refine r_nil ?_
    exact ob_eqv (congrArg Value.bool (tst_false (fun h => h rfl))) .refl
  apply ob_step
  · intro x w1 k1 hd
    refine r_pick_false rfl (by conv => (lhs; whnf)) ?_
    refine r_nil ?_
    exact ob_eq
  apply ob_step
  · intro x w1 k1 hd
    refine r_move (by conv => (lhs; whnf)) ?_
    refine r_nil ?_
    exact ob_eq
  apply ob_step
  · intro x w1 k1 hd
    refine r_guard_run rfl rfl ?_
    refine r_move (by conv => (lhs; whnf)) ?_
    refine r_nil ?_
    exact ob_eq
  refine ob_step (e := Ent.eq (.bool false)) ?_ ?_
  · intro x w1 k1 hd
    refine r_guard_run rfl rfl ?_
    refine r_neq rfl rfl ?_
    refine r_nil ?_
    exact ob_eqv (congrArg Value.bool (tst_false (fun h => h rfl))) .refl
  apply ob_step
  · intro x w1 k1 hd
    refine r_pick_false rfl (by conv => (lhs; whnf)) ?_
    refine r_nil ?_
    exact ob_eq
  apply ob_step
  · intro x w1 k1 hd
    refine r_move (by conv => (lhs; whnf)) ?_
    refine r_nil ?_
    exact ob_eq
  apply ob_step
  · intro x w1 k1 hd
    refine r_guard_run rfl rfl ?_
    refine r_load_all rfl (h9.to k1) rfl ?_
    refine r_nil ?_
    exact ob_eq
  apply ob_step
  · intro x w1 k1 hd
    refine r_guard_run rfl rfl ?_
    refine r_load_all rfl (h6.to k1) rfl ?_
    refine r_nil ?_
    exact ob_eq
  apply ob_step
  · intro x w1 k1 hd
    refine r_guard_run rfl rfl ?_
    refine r_load_all rfl (h8.to k1) rfl ?_
    refine r_nil ?_
    exact ob_eq
  refine ob_step (e := zE All (zx + zy)) ?_ ?_
  · intro x w1 k1 hd
    refine r_guard_run rfl rfl ?_
    refine r_call (zadd_c (a := zx) (b := zy) Up.all ⟨mx, rfl, hx.to k1⟩ ⟨my, rfl, hy.to k1⟩ (by omega) (by omega)) rfl ?_
    rintro v2 w2 ⟨k2, h2⟩
    exact r_nil (ob_of k2 h2)
  refine ob_step (e := Ent.eq (.bool true)) ?_ ?_
  · intro x w1 k1 hd
    refine r_guard_run rfl rfl ?_
    refine r_call (whole_l (a := zx + zy) (z := zx + zy) Up.all (ht10.to k1) ⟨mp, rfl, hp.to k1⟩ hd.1 (by omega) (by omega)) rfl ?_
    rintro v2 w2 ⟨rfl, k2⟩
    exact r_nil (ob_eqv (congrArg Value.bool (tst_true rfl)) k2)
  apply ob_step
  · intro x w1 k1 hd
    refine r_guard_run rfl rfl ?_
    refine r_not rfl ?_
    refine r_nil ?_
    exact ob_eq
  apply ob_step
  · intro x w1 k1 hd
    refine r_pick_false rfl (by conv => (lhs; whnf)) ?_
    refine r_nil ?_
    exact ob_eq
  apply ob_step
  · intro x w1 k1 hd
    refine r_move (by conv => (lhs; whnf)) ?_
    refine r_nil ?_
    exact ob_eq
  apply ob_step
  · intro x w1 k1 hd
    refine r_guard_run rfl rfl ?_
    refine r_load_all rfl (h11.to k1) rfl ?_
    refine r_nil ?_
    exact ob_eq
  apply ob_step
  · intro x w1 k1 hd
    refine r_guard_run rfl rfl ?_
    refine r_load_all rfl (h6.to k1) rfl ?_
    refine r_nil ?_
    exact ob_eq
  apply ob_step
  · intro x w1 k1 hd
    refine r_guard_run rfl rfl ?_
    refine r_load_all rfl (h8.to k1) rfl ?_
    refine r_nil ?_
    exact ob_eq
  refine ob_step (e := zE All (zx - zy)) ?_ ?_
  · intro x w1 k1 hd
    refine r_guard_run rfl rfl ?_
    refine r_call (zsub_c (a := zx) (b := zy) Up.all ⟨mx, rfl, hx.to k1⟩ ⟨my, rfl, hy.to k1⟩ (by omega) (by omega)) rfl ?_
    rintro v2 w2 ⟨k2, h2⟩
    exact r_nil (ob_of k2 h2)
  refine ob_step (e := Ent.eq (.bool true)) ?_ ?_
  · intro x w1 k1 hd
    refine r_guard_run rfl rfl ?_
    refine r_call (whole_l (a := zx - zy) (z := zx - zy) Up.all (ht10.to k1) ⟨mq, rfl, hq.to k1⟩ hd.1 (by omega) (by omega)) rfl ?_
    rintro v2 w2 ⟨rfl, k2⟩
    exact r_nil (ob_eqv (congrArg Value.bool (tst_true rfl)) k2)
  apply ob_step
  · intro x w1 k1 hd
    refine r_guard_run rfl rfl ?_
    refine r_not rfl ?_
    refine r_nil ?_
    exact ob_eq
  apply ob_step
  · intro x w1 k1 hd
    refine r_pick_false rfl (by conv => (lhs; whnf)) ?_
    refine r_nil ?_
    exact ob_eq
  apply ob_step
  · intro x w1 k1 hd
    refine r_move (by conv => (lhs; whnf)) ?_
    refine r_nil ?_
    exact ob_eq
  apply ob_step
  · intro x w1 k1 hd
    refine r_guard_run rfl rfl ?_
    refine r_load_all rfl (h13.to k1) rfl ?_
    refine r_nil ?_
    exact ob_eq
  apply ob_step
  · intro x w1 k1 hd
    refine r_guard_run rfl rfl ?_
    refine r_load_all rfl (h6.to k1) rfl ?_
    refine r_nil ?_
    exact ob_eq
  apply ob_step
  · intro x w1 k1 hd
    refine r_guard_run rfl rfl ?_
    refine r_load_all rfl (h8.to k1) rfl ?_
    refine r_nil ?_
    exact ob_eq
  refine ob_step (e := zE All (zx * zy)) ?_ ?_
  · intro x w1 k1 hd
    refine r_guard_run rfl rfl ?_
    refine r_call (zmul_c (a := zx) (b := zy) Up.all ⟨mx, rfl, hx.to k1⟩ ⟨my, rfl, hy.to k1⟩ (by omega) (by omega)) rfl ?_
    rintro v2 w2 ⟨k2, h2⟩
    exact r_nil (ob_of k2 h2)
  refine ob_step (e := Ent.eq (.bool true)) ?_ ?_
  · intro x w1 k1 hd
    refine r_guard_run rfl rfl ?_
    refine r_call (whole_l (a := zx * zy) (z := zx * zy) Up.all (ht10.to k1) ⟨mr, rfl, hr.to k1⟩ hd.1 (by omega) (by omega)) rfl ?_
    rintro v2 w2 ⟨rfl, k2⟩
    exact r_nil (ob_eqv (congrArg Value.bool (tst_true rfl)) k2)
  apply ob_step
  · intro x w1 k1 hd
    refine r_guard_run rfl rfl ?_
    refine r_not rfl ?_
    refine r_nil ?_
    exact ob_eq
  apply ob_step
  · intro x w1 k1 hd
    refine r_pick_false rfl (by conv => (lhs; whnf)) ?_
    refine r_nil ?_
    exact ob_eq
  apply ob_step
  · intro x w1 k1 hd
    refine r_move (by conv => (lhs; whnf)) ?_
    refine r_nil ?_
    exact ob_eq
  apply ob_step
  · intro x w1 k1 hd
    refine r_guard_run rfl rfl ?_
    refine r_load_all rfl (h5.to k1) rfl ?_
    refine r_nil ?_
    exact ob_eq
  apply ob_step
  · intro x w1 k1 hd
    refine r_guard_run rfl rfl ?_
    refine r_load_all rfl (h7.to k1) rfl ?_
    refine r_nil ?_
    exact ob_eq
  refine ob_step (e := Ent.eq (.int .i64 (zx - zy).sign)) ?_ ?_
  · intro x w1 k1 hd
    refine r_guard_run rfl rfl ?_
    refine r_call (icmp_c (S := All) (a := zx) (b := zy) Up.all ⟨ma, rfl, ha.to k1⟩ ⟨mb, rfl, hb.to k1⟩ (by omega) (by omega)) rfl ?_
    rintro v2 w2 ⟨rfl, k2⟩
    exact r_nil (ob_eqv (rfl) k2)
  apply ob_step
  · intro x w1 k1 hd
    refine r_guard_run rfl rfl ?_
    refine r_load_all rfl (h6.to k1) rfl ?_
    refine r_nil ?_
    exact ob_eq
  apply ob_step
  · intro x w1 k1 hd
    refine r_guard_run rfl rfl ?_
    refine r_load_all rfl (h8.to k1) rfl ?_
    refine r_nil ?_
    exact ob_eq
  refine ob_step (e := Ent.eq (.int .i64 (zx - zy).sign)) ?_ ?_
  · intro x w1 k1 hd
    refine r_guard_run rfl rfl ?_
    refine r_call (zcmp_c (S := All) (a := zx) (b := zy) Up.all ⟨mx, rfl, hx.to k1⟩ ⟨my, rfl, hy.to k1⟩ (by omega) (by omega)) rfl ?_
    rintro v2 w2 ⟨rfl, k2⟩
    exact r_nil (ob_eqv (rfl) k2)
  refine ob_step (e := Ent.eq (.bool false)) ?_ ?_
  · intro x w1 k1 hd
    refine r_guard_run rfl rfl ?_
    refine r_neq rfl rfl ?_
    refine r_nil ?_
    exact ob_eqv (congrArg Value.bool (tst_false (fun h => h rfl))) .refl
  apply ob_step
  · intro x w1 k1 hd
    refine r_pick_false rfl (by conv => (lhs; whnf)) ?_
    refine r_nil ?_
    exact ob_eq
  apply ob_step
  · intro x w1 k1 hd
    refine r_move (by conv => (lhs; whnf)) ?_
    refine r_nil ?_
    exact ob_eq
  apply ob_step
  · intro x w1 k1 hd
    refine r_guard_run rfl rfl ?_
    refine r_load_all rfl (h5.to k1) rfl ?_
    refine r_nil ?_
    exact ob_eq
  apply ob_step
  · intro x w1 k1 hd
    refine r_guard_run rfl rfl ?_
    refine r_load_all rfl (h7.to k1) rfl ?_
    refine r_nil ?_
    exact ob_eq
  refine ob_step (e := intE All 127 .u32 (Int.gcd zx zy : Int)) ?_ ?_
  · intro x w1 k1 hd
    refine r_guard_run rfl rfl ?_
    refine r_call (igcd_c (S := All) (a := zx) (b := zy) Up.all ⟨ma, rfl, ha.to k1⟩ ⟨mb, rfl, hb.to k1⟩ (by omega) (by omega)) rfl ?_
    rintro v2 w2 ⟨k2, h2⟩
    exact r_nil (ob_of k2 h2)
  apply ob_step
  · intro x w1 k1 hd
    refine r_guard_run rfl rfl ?_
    refine r_load_all rfl (h6.to k1) rfl ?_
    refine r_nil ?_
    exact ob_eq
  apply ob_step
  · intro x w1 k1 hd
    refine r_guard_run rfl rfl ?_
    refine r_load_all rfl (h8.to k1) rfl ?_
    refine r_nil ?_
    exact ob_eq
  refine ob_step (e := zE All (Int.gcd zx zy : Int)) ?_ ?_
  · intro x w1 k1 hd
    refine r_guard_run rfl rfl ?_
    refine r_call (zgcd_c (a := zx) (b := zy) Up.all ⟨mx, rfl, hx.to k1⟩ ⟨my, rfl, hy.to k1⟩ (by omega) (by omega)) rfl ?_
    rintro v2 w2 ⟨k2, h2⟩
    exact r_nil (ob_of k2 h2)
  refine ob_step (e := Ent.eq (.bool true)) ?_ ?_
  · intro x w1 k1 hd
    refine r_guard_run rfl rfl ?_
    refine r_call (whole_l (S := All) (a := (Int.gcd zx zy : Int)) (z := (Int.gcd zx zy : Int)) Up.all (ht10.to k1) hd.2.2.2.1 hd.1 (by omega) (by omega)) rfl ?_
    rintro v2 w2 ⟨rfl, k2⟩
    exact r_nil (ob_eqv (congrArg Value.bool (tst_true rfl)) k2)
  apply ob_step
  · intro x w1 k1 hd
    refine r_guard_run rfl rfl ?_
    refine r_not rfl ?_
    refine r_nil ?_
    exact ob_eq
  refine ob_nil (ob_end ?_)
  intro xx w11 k11 _
  replace ha := ha.to k11
  replace hx := hx.to k11
  replace h5 := h5.to k11
  replace h6 := h6.to k11
  replace hb := hb.to k11
  replace hy := hy.to k11
  replace h7 := h7.to k11
  replace h8 := h8.to k11
  replace k := k.trans k11
  clear k11 h9 h11 h13 hp hq hr ht10
  repeat (first | refine wp_seq_region ?_ | refine wp_region ?_ | refine r_nil ?_ | refine q_then ?_ | refine wp_skip ?_ | refine r_pick_false rfl (by conv => (lhs; whnf)) ?_ | refine wp_cond_false rfl ?_)
  by_cases hy0 : zy = 0
  · subst hy0
    repeat (first | refine r_load_all rfl h5 rfl ?_ | refine r_load_all rfl h7 rfl ?_)
    refine r_call (idiv0_c (S := All) (a := zx) Up.all ⟨ma, rfl, ha⟩ ⟨mb, rfl, hb⟩) rfl ?_
    rintro v12 w12 ⟨vq, vr, rfl, k12, ⟨mq, rfl, hq⟩, ⟨mr, rfl, hr⟩⟩
    replace h8 := h8.to k12
    replace hy := hy.to k12
    replace k := k.trans k12
    clear k12
    repeat (first | refine r_move (by conv => (lhs; whnf)) ?_ | refine r_extract rfl rfl ?_)
    refine r_new2 rfl (zs := [.bool false, .slice none 0 0]) (zs2 := [.bool false, .slice none 0 0]) (us := [.bool (tst ((0 : Int) < 0)), mq]) (us2 := [.bool (tst ((0 : Int) < 0)), mr]) rfl rfl (fun _ _ => rfl) (fun _ _ => rfl) rfl rfl rfl rfl (ones2 rfl hq.one) (ones2 rfl hr.one) ?_
    intro w13 g15 g16 k13 _ _ _ h15 h16
    replace h8 := h8.to k13
    replace hy := hy.to k13
    replace hq := hq.to k13
    replace hr := hr.to k13
    replace k := k.trans k13
    clear k13
    repeat (first | refine r_load_all rfl h8 rfl ?_ | refine wp_seq_region ?_ | refine wp_seq_seq ?_ | refine wp_region ?_ | refine r_assign (by conv => (lhs; whnf)) ?_ | refine r_nil ?_)
    refine r_call (zsign_c (z := 0) ⟨my, rfl, hy⟩) rfl ?_
    rintro v14 w14 ⟨rfl, k14⟩
    replace h15 := h15.to k14
    replace h16 := h16.to k14
    replace hq := hq.to k14
    replace hr := hr.to k14
    replace k := k.trans k14
    clear k14
    repeat (first | refine r_nil ?_ | refine q_then ?_ | refine r_eql rfl rfl ?_)
    refine wp_cond_yes rfl rfl ?_
    repeat (first | refine r_load_all rfl h15 rfl ?_ | refine wp_seq_region ?_ | refine wp_region ?_ | refine r_move (by conv => (lhs; whnf)) ?_ | refine r_guard_run rfl rfl ?_ | refine r_eql rfl rfl ?_ | refine r_guard_yes rfl rfl (by omega) ?_)
    refine r_call (sign_c (z := 0) ⟨mq, rfl, hq⟩) rfl ?_
    rintro v15 w15 ⟨rfl, k15⟩
    replace h16 := h16.to k15
    replace hr := hr.to k15
    replace k := k.trans k15
    clear k15
    repeat (first | refine r_move (by conv => (lhs; whnf)) ?_ | refine r_guard_run rfl rfl ?_ | refine r_pick_true rfl (by conv => (lhs; whnf)) ?_ | refine r_eql rfl rfl ?_)
    refine r_guard_yes rfl rfl rfl ?_
    repeat (first | refine r_load_all rfl h16 rfl ?_ | refine r_guard_run rfl rfl ?_)
    refine r_call (sign_c (z := 0) ⟨mr, rfl, hr⟩) rfl ?_
    rintro v16 w16 ⟨rfl, k16⟩
    replace k := k.trans k16
    clear k16
    repeat (first | refine r_move (by conv => (lhs; whnf)) ?_ | refine r_guard_run rfl rfl ?_ | refine r_pick_true rfl (by conv => (lhs; whnf)) ?_ | refine r_eql rfl rfl ?_)
    refine r_guard_yes rfl rfl rfl ?_
    repeat (first | refine r_guard_run rfl rfl ?_)
    refine r_call (awake_c (ht.to k)) rfl ?_
    rintro v17 w17 ⟨rfl, k17⟩
    repeat (first | refine r_assign (by conv => (lhs; whnf)) ?_ | refine r_nil ?_ | refine q_then ?_ | refine wp_ret ?_ | refine q_then_ret ?_ | refine r_pick_true rfl (by conv => (lhs; whnf)) ?_)
    exact end_tmp rfl (by conv => (lhs; whnf)) ⟨rfl, k.trans k17⟩
  · have lq : zl (zx / zy) ≤ 79 := by
      have h1 := (edm_abs (a := zx) hy0).1
      unfold zl
      rw [h1]
      refine Nat.le_trans (dl_mono (show qAbs zx zy ≤ zx.natAbs + 1 from ?_)) (Nat.le_trans (dl_add _ _) ?_)
      · unfold qAbs
        have := Nat.div_le_self zx.natAbs zy.natAbs
        split <;> omega
      · have : dl 1 ≤ 1 := dl_le (k := 1) (by decide)
        unfold zl at lx
        omega
    have lr : zl (zx % zy) ≤ 78 := by
      have h1 := (edm_abs (a := zx) hy0).2.2
      unfold zl
      rw [h1, Int.natAbs_natCast]
      refine Nat.le_trans (dl_mono (show rAbs zx zy ≤ zy.natAbs from ?_)) ly
      have h2 : zx.natAbs % zy.natAbs < zy.natAbs := Nat.mod_lt _ (by omega)
      unfold rAbs
      split <;> omega
    repeat (first | refine r_load_all rfl h5 rfl ?_ | refine r_load_all rfl h7 rfl ?_)
    refine r_call (idiv_c (S := All) (a := zx) (b := zy) Up.all ⟨ma, rfl, ha⟩ ⟨mb, rfl, hb⟩ (by omega) (by omega) hy0) rfl ?_
    rintro v12 w12 ⟨vq, vr, rfl, k12, ⟨mq, rfl, hq⟩, ⟨mr, rfl, hr⟩⟩
    replace h6 := h6.to k12
    replace h8 := h8.to k12
    replace hx := hx.to k12
    replace hy := hy.to k12
    replace k := k.trans k12
    clear k12
    repeat (first | refine r_move (by conv => (lhs; whnf)) ?_ | refine r_extract rfl rfl ?_)
    refine r_new2 rfl (zs := [.bool false, .slice none 0 0]) (zs2 := [.bool false, .slice none 0 0]) (us := [.bool (tst (zx / zy < 0)), mq]) (us2 := [.bool (tst (zx % zy < 0)), mr]) rfl rfl (fun _ _ => rfl) (fun _ _ => rfl) rfl rfl rfl rfl (ones2 rfl hq.one) (ones2 rfl hr.one) ?_
    intro w13 g15 g16 k13 _ _ _ h15 h16
    replace h6 := h6.to k13
    replace h8 := h8.to k13
    replace hx := hx.to k13
    replace hy := hy.to k13
    replace hq := hq.to k13
    replace hr := hr.to k13
    replace k := k.trans k13
    clear k13
    repeat (first | refine r_load_all rfl h8 rfl ?_ | refine wp_seq_region ?_ | refine wp_seq_seq ?_ | refine wp_region ?_ | refine r_assign (by conv => (lhs; whnf)) ?_ | refine r_nil ?_)
    refine r_call (zsign_c (z := zy) ⟨my, rfl, hy⟩) rfl ?_
    rintro v14 w14 ⟨rfl, k14⟩
    replace h6 := h6.to k14
    replace h8 := h8.to k14
    replace hx := hx.to k14
    replace hy := hy.to k14
    replace hq := hq.to k14
    replace hr := hr.to k14
    replace h15 := h15.to k14
    replace h16 := h16.to k14
    replace k := k.trans k14
    clear k14
    repeat (first | refine r_nil ?_ | refine q_then ?_ | refine r_eql rfl rfl ?_)
    refine wp_cond_no rfl (fun h => hy0 (Int.sign_eq_zero_iff_zero.1 h)) ?_
    repeat (first | refine r_load_all rfl h6 rfl ?_ | refine r_load_all rfl h8 rfl ?_ | refine wp_seq_region ?_ | refine wp_region ?_ | refine wp_skip ?_)
    refine r_call (zdiv_c (S := All) (a := zx) (b := zy) Up.all ⟨mx, rfl, hx⟩ ⟨my, rfl, hy⟩ (by omega) (by omega) hy0) rfl ?_
    rintro v15 w15 ⟨vm, vn, rfl, k15, ⟨mm, rfl, hm⟩, ⟨mn, rfl, hn⟩⟩
    replace hq := hq.to k15
    replace hr := hr.to k15
    replace h15 := h15.to k15
    replace h16 := h16.to k15
    replace k := k.trans k15
    clear k15
    repeat (first | refine r_move (by conv => (lhs; whnf)) ?_ | refine r_extract rfl rfl ?_)
    refine r_new2 rfl (zs := [.bool false, .slice none 0 0]) (zs2 := [.bool false, .slice none 0 0]) (us := [.bool (tst (zx / zy < 0)), mm]) (us2 := [.bool (tst (zx % zy < 0)), mn]) rfl rfl (fun _ _ => rfl) (fun _ _ => rfl) rfl rfl rfl rfl (ones2 rfl hm.one) (ones2 rfl hn.one) ?_
    intro w16 g18 g19 k16 _ _ _ h18 h19
    replace hq := hq.to k16
    replace hr := hr.to k16
    replace h15 := h15.to k16
    replace h16 := h16.to k16
    replace hm := hm.to k16
    replace hn := hn.to k16
    replace k := k.trans k16
    clear k16
    repeat (first | refine r_load_all rfl h15 rfl ?_ | refine r_load_all rfl h18 rfl ?_ | refine wp_seq_region ?_ | refine wp_region ?_ | refine r_move (by conv => (lhs; whnf)) ?_ | refine r_nil ?_ | refine r_guard_run rfl rfl ?_ | refine r_eql rfl rfl ?_ | refine r_guard_yes rfl rfl (by omega) ?_)
    refine r_call (whole_l (S := All) (a := zx / zy) (z := zx / zy) Up.all (ht.to k) ⟨mq, rfl, hq⟩ ⟨mm, rfl, hm⟩ (by omega) (by omega)) rfl ?_
    rintro v17 w17 ⟨rfl, k17⟩
    replace hr := hr.to k17
    replace h16 := h16.to k17
    replace hn := hn.to k17
    replace h19 := h19.to k17
    replace k := k.trans k17
    clear k17
    repeat (first | refine r_move (by conv => (lhs; whnf)) ?_ | refine r_pick_true rfl (by conv => (lhs; whnf)) ?_)
    refine r_guard_yes rfl rfl rfl ?_
    repeat (first | refine r_load_all rfl h16 rfl ?_ | refine r_load_all rfl h19 rfl ?_ | refine r_guard_run rfl rfl ?_)
    refine r_call (whole_l (S := All) (a := zx % zy) (z := zx % zy) Up.all (ht.to k) ⟨mr, rfl, hr⟩ ⟨mn, rfl, hn⟩ (by omega) (by omega)) rfl ?_
    rintro v18 w18 ⟨rfl, k18⟩
    replace k := k.trans k18
    clear k18
    repeat (first | refine r_move (by conv => (lhs; whnf)) ?_ | refine r_pick_true rfl (by conv => (lhs; whnf)) ?_)
    refine r_guard_yes rfl rfl rfl ?_
    repeat (first | refine r_guard_run rfl rfl ?_)
    refine r_call (awake_c (ht.to k)) rfl ?_
    rintro v19 w19 ⟨rfl, k19⟩
    repeat (first | refine r_assign (by conv => (lhs; whnf)) ?_ | refine r_nil ?_ | refine q_then ?_ | refine wp_ret ?_ | refine r_pick_true rfl (by conv => (lhs; whnf)) ?_)
    exact end_tmp rfl (by conv => (lhs; whnf)) ⟨rfl, k.trans k19⟩
end Go.Proofs.YtpmnjjmngogkkaaGreatDoor
end

section
/- The statement FracMakes: whatever two integers come in, it returns true. -/
set_option linter.unusedVariables false
set_option linter.unusedSimpArgs false
namespace Go.Proofs.YtpmnjjmngogkkaaGreatDoor
open Go Go.RowKit

theorem zl_i64 {z : Int} (h0 : -9223372036854775808 ≤ z) (h1 : z ≤ 9223372036854775807) {n : Nat} (hn : 3 ≤ n) : zl z ≤ n := Nat.le_trans (dl_le (k := 3) (by omega)) hn
theorem rl_i64 {z : Int} (h0 : -9223372036854775808 ≤ z) (h1 : z ≤ 9223372036854775807) {n : Nat} (hn : 3 ≤ n) : rl (z : Rat) n :=
  ⟨zl_i64 h0 h1 hn, Nat.le_trans (dl_le (k := 1) (by show 1 < _; omega)) (by omega)⟩
theorem rl_mk {a b : Int} (ha0 : -9223372036854775808 ≤ a) (ha1 : a ≤ 9223372036854775807) (hb0 : -9223372036854775808 ≤ b) (hb1 : b ≤ 9223372036854775807) (hb : b ≠ 0) {n : Nat} (hn : 3 ≤ n) : rl (mkRat (a * b.sign) b.natAbs) n := by
  obtain ⟨h1, h2, _⟩ := mkRat_parts (a * b.sign) (d := b.natAbs) (by omega)
  rw [mul_sgn_abs a b hb] at h1
  have h3 : a.natAbs / Nat.gcd b.natAbs (a * b.sign).natAbs ≤ a.natAbs := Nat.div_le_self ..
  have h4 : b.natAbs / Nat.gcd b.natAbs (a * b.sign).natAbs ≤ b.natAbs := Nat.div_le_self ..
  rw [mul_sgn_abs a b hb] at h3 h4 h2
  constructor
  · rw [h1]; exact Nat.le_trans (dl_le (k := 3) (by omega)) hn
  · rw [h2]; exact Nat.le_trans (dl_le (k := 3) (by omega)) hn
theorem rstr_int (z : Int) : rstr (z : Rat) = Lib.itoa z := by
  unfold rstr
  rw [if_pos (by rfl), List.append_nil]
  rfl

set_option maxHeartbeats 2000000 in
theorem fracMakes_c {w : World} {m n : Int} (ht : Tab w) (hm0 : -9223372036854775808 ≤ m) (hm1 : m ≤ 9223372036854775807) (hn0 : -9223372036854775808 ≤ n) (hn1 : n ≤ 9223372036854775807) :
    Gives Tryz.prog 3 [.int .i64 m, .int .i64 n] w fun v' w' => v' = .bool true ∧ Ext w w' := by
  have hS : Up All w := Up.all
  refine gives_of Tryz.func3 rfl rfl rfl ?_
  repeat (first | refine wp_seq_region ?_ | refine wp_seq_seq ?_ | refine wp_region ?_ | refine r_move (by conv => (lhs; whnf)) ?_ | refine r_assign (by conv => (lhs; whnf)) ?_ | refine r_nil ?_)
  refine r_call (whole_c (z := m) hS hm0 hm1) rfl ?_
  rintro v1 w1 ⟨k1, h1⟩
  repeat (first | refine r_move (by conv => (lhs; whnf)) ?_)
  refine r_call (zof_c (z := m) (hS.to k1) hm0 hm1) rfl ?_
  rintro v2 w2 ⟨k2, h2⟩
  have k := k1.trans k2
  skip
  refine r_call (whole_l (hS.to k) (ht.to k) (h1.to k2) h2 (zl_i64 hm0 hm1 (by omega)) (zl_i64 hm0 hm1 (by omega))) rfl ?_
  rintro v3 w3 ⟨rfl, k3⟩
  replace k := k.trans k3
  repeat (first | refine r_move (by conv => (lhs; whnf)) ?_ | refine r_notB rfl ?_)
  refine r_guard_no rfl rfl (fun h => h rfl) ?_
  repeat (first | refine r_move (by conv => (lhs; whnf)) ?_ | refine r_guard_run rfl rfl ?_)
  refine r_call (of_c (z := m) (hS.to k) hm0 hm1) rfl ?_
  rintro v4 w4 ⟨k4, h4⟩
  replace k := k.trans k4
  repeat (first | refine r_guard_run rfl rfl ?_)
  refine r_call (rstr_c (ht.to k) h4 (rl_i64 hm0 hm1 (by omega))) rfl ?_
  rintro v5 w5 ⟨rfl, k5⟩
  replace k := k.trans k5
  repeat (first | refine r_move (by conv => (lhs; whnf)) ?_ | refine r_guard_run rfl rfl ?_)
  refine r_call (zof_c (z := m) (hS.to k) hm0 hm1) rfl ?_
  rintro v6 w6 ⟨k6, h6⟩
  replace k := k.trans k6
  repeat (first | refine r_guard_run rfl rfl ?_)
  refine r_call (zstr_c h6 (zl_i64 hm0 hm1 (by omega))) rfl ?_
  rintro v7 w7 ⟨rfl, k7⟩
  replace k := k.trans k7
  refine r_guard_run rfl rfl ?_
  refine r_neqS rfl rfl ?_
  repeat (first | refine r_nil ?_ | refine q_then ?_ | refine r_pick_false rfl (by conv => (lhs; whnf)) ?_)
  refine wp_cond_no rfl (fun h => h (rstr_int m)) ?_
  repeat (first | refine wp_seq_region ?_ | refine wp_region ?_ | refine r_move (by conv => (lhs; whnf)) ?_ | refine wp_skip ?_)
  by_cases hn : n = 0
  · subst hn
    refine r_call (make0_c (z := m) (hS.to k)) rfl ?_
    rintro v8 w8 ⟨v, rfl, k8, h8⟩
    obtain ⟨t8, rfl, h8, o81, o82, o83⟩ := RatV.tri h8
    replace k := k.trans k8
    repeat (first | refine r_move (by conv => (lhs; whnf)) ?_ | refine r_extract rfl rfl ?_)
    refine r_alloc (cs := [.bool false, .slice none 0 0, .slice none 0 0]) rfl ?_
    intro w9 g k9 hg hgs
    have hsz := k.size
    replace h8 := h8.to k9
    refine r_store3 rfl rfl hg rfl o81 o82 o83 ?_
    intro w10 k10 hg10
    replace h8 := h8.wrT k10 hg (by decide)
    replace k := (k.trans k9).past k10 (by omega)
    replace hg : Blk w10 g 34 (flat [t8]) := hg10
    repeat (first | refine wp_seq_region ?_ | refine wp_seq_seq ?_ | refine wp_region ?_ | refine r_move (by conv => (lhs; whnf)) ?_ | refine r_assign (by conv => (lhs; whnf)) ?_ | refine r_nil ?_ | refine q_then ?_ | refine r_guard_run rfl rfl ?_ | refine r_eql rfl rfl ?_ | refine wp_cond_yes rfl (by omega) ?_ | refine r_guard_yes rfl rfl (by omega) ?_)
    refine r_load_tri 0 rfl (by decide) hg rfl ?_
    repeat (first | refine r_guard_run rfl rfl ?_)
    refine r_call (rsign_c (v := t8.val) h8) rfl ?_
    rintro v11 w11 ⟨rfl, k11⟩
    replace k := k.trans k11
    repeat (first | refine r_move (by conv => (lhs; whnf)) ?_ | refine r_guard_run rfl rfl ?_ | refine r_pick_true rfl (by conv => (lhs; whnf)) ?_ | refine r_eql rfl rfl ?_)
    refine r_guard_yes rfl rfl rfl ?_
    repeat (first | refine r_guard_run rfl rfl ?_)
    refine r_call (awake_c (ht.to k)) rfl ?_
    rintro v12 w12 ⟨rfl, k12⟩
    repeat (first | refine r_assign (by conv => (lhs; whnf)) ?_ | refine r_nil ?_ | refine q_then ?_ | refine wp_ret ?_ | refine q_then_ret ?_ | refine r_pick_true rfl (by conv => (lhs; whnf)) ?_)
    exact end_tmp rfl (by conv => (lhs; whnf)) ⟨rfl, k.trans k12⟩
  · refine r_call (make_c (a := m) (b := n) (hS.to k) hm0 hm1 hn0 hn1 hn) rfl ?_
    rintro v8 w8 ⟨v, rfl, k8, h8⟩
    obtain ⟨t8, rfl, h8, o81, o82, o83⟩ := RatV.tri h8
    replace k := k.trans k8
    repeat (first | refine r_move (by conv => (lhs; whnf)) ?_ | refine r_extract rfl rfl ?_)
    refine r_alloc (cs := [.bool false, .slice none 0 0, .slice none 0 0]) rfl ?_
    intro w9 g k9 hg hgs
    have hsz := k.size
    replace h8 := h8.to k9
    refine r_store3 rfl rfl hg rfl o81 o82 o83 ?_
    intro w10 k10 hg10
    replace h8 := h8.wrT k10 hg (by decide)
    replace k := (k.trans k9).past k10 (by omega)
    replace hg : Blk w10 g 34 (flat [t8]) := hg10
    have ht10 := ht.to k
    have hS10 : Up All w10 := Up.all
    repeat (first | refine wp_seq_region ?_ | refine wp_seq_seq ?_ | refine wp_region ?_ | refine r_move (by conv => (lhs; whnf)) ?_ | refine r_assign (by conv => (lhs; whnf)) ?_ | refine r_nil ?_ | refine q_then ?_ | refine wp_skip ?_ | refine r_eql rfl rfl ?_ | refine wp_cond_no rfl (by omega) ?_)
    refine wp_drawn 14 (by kernel_rfl) (by kernel_rfl) ?_
    apply ob_step
    · intro x w1 k1 hd
      refine r_move (by conv => (lhs; whnf)) ?_
      refine r_nil ?_
      exact ob_eq
    refine ob_step (e := Ent.eq (.bool true)) ?_ ?_
    · intro x w1 k1 hd
      refine r_eql rfl rfl ?_
      refine r_nil ?_
      exact ob_eqv (by rw [tst_true rfl]) .refl
    apply ob_step
    · intro x w1 k1 hd
      refine r_move (by conv => (lhs; whnf)) ?_
      refine r_nil ?_
      exact ob_eq
    refine ob_step (e := Ent.eq t8.val) ?_ ?_
    · intro x w1 k1 hd
      refine r_guard_run rfl rfl ?_
      refine r_load_tri 0 rfl (by decide) (hg.to k1) rfl ?_
      refine r_nil ?_
      exact ob_eq
    refine ob_step (e := Ent.eq (.int .i64 m)) ?_ ?_
    · intro x w1 k1 hd
      refine r_guard_run rfl rfl ?_
      refine r_move rfl ?_
      refine r_nil ?_
      exact ob_eq
    refine ob_step (e := zE All m) ?_ ?_
    · intro x w1 k1 hd
      refine r_guard_run rfl rfl ?_
      refine r_call (zof_c (z := m) (hS10.to k1) hm0 hm1) rfl ?_
      rintro v2 w2 ⟨k2, h2⟩
      exact r_nil (ob_of k2 h2)
    refine ob_step (e := Ent.eq (.int .i64 n)) ?_ ?_
    · intro x w1 k1 hd
      refine r_guard_run rfl rfl ?_
      refine r_move rfl ?_
      refine r_nil ?_
      exact ob_eq
    refine ob_step (e := zE All n) ?_ ?_
    · intro x w1 k1 hd
      refine r_guard_run rfl rfl ?_
      refine r_call (zof_c (z := n) (hS10.to k1) hn0 hn1) rfl ?_
      rintro v2 w2 ⟨k2, h2⟩
      exact r_nil (ob_of k2 h2)
    refine ob_step (e := qE All (mkRat (m * n.sign) n.natAbs)) ?_ ?_
    · intro x w1 k1 hd
      refine r_guard_run rfl rfl ?_
      refine r_call (zratio_c (a := m) (b := n) (hS10.to k1) hd.2.2.1 hd.1 (zl_i64 hm0 hm1 (by omega)) (zl_i64 hn0 hn1 (by omega)) hn) rfl ?_
      rintro v2 w2 ⟨k2, h2⟩
      exact r_nil (ob_of k2 h2)
    refine ob_step (e := Ent.eq (.bool true)) ?_ ?_
    · intro x w1 k1 hd
      refine r_guard_run rfl rfl ?_
      refine r_call (is_l (hS10.to k1) (ht10.to k1) (h8.to k1) hd.1 (rl_mk hm0 hm1 hn0 hn1 hn (by omega)) (rl_mk hm0 hm1 hn0 hn1 hn (by omega))) rfl ?_
      rintro v2 w2 ⟨rfl, k2⟩
      exact r_nil (ob_eqv (by rw [tst_true rfl]) k2)
    refine ob_step (e := Ent.eq (.bool true)) ?_ ?_
    · intro x w1 k1 hd
      refine r_pick_true rfl rfl ?_
      exact r_nil ob_eq
    apply ob_step
    · intro x w1 k1 hd
      refine r_move (by conv => (lhs; whnf)) ?_
      refine r_nil ?_
      exact ob_eq
    refine ob_step (e := Ent.eq (.bool true)) ?_ ?_
    · intro x w1 k1 hd
      refine r_guard_run rfl rfl ?_
      refine r_call (awake_c (ht10.to k1)) rfl ?_
      rintro v2 w2 ⟨rfl, k2⟩
      exact r_nil (ob_eq_to k2)
    refine ob_step (e := Ent.eq (.bool true)) ?_ ?_
    · intro x w1 k1 hd
      refine r_pick_true rfl rfl ?_
      exact r_nil ob_eq
    refine ob_nil (ob_end ?_)
    intro x w11 k11 _
    repeat (first | refine r_assign (by conv => (lhs; whnf)) ?_ | refine r_nil ?_ | refine q_then ?_ | refine wp_ret ?_)
    exact end_tmp rfl (by conv => (lhs; whnf)) ⟨rfl, k.trans k11⟩
end Go.Proofs.YtpmnjjmngogkkaaGreatDoor
end

section
/- The statement FracMakes, proved: for every two int64s the law returns true and leaves them as they were; the listed tables of the library hold what the program's text lays (the given tie). -/
set_option linter.unusedVariables false
namespace Go.Proofs.YtpmnjjmngogkkaaGreatDoor
open Go Go.ChangeShapes Go.WideShapes Go.ChangeAt Go.WideMaps Go.WideElems Go.RowKit

theorem own : ownKnob Tryz.prog.godebug = none := by kernel_rfl
theorem gTab : Tryz.prog.globalNamed "internal/strconv.uint64pow10" = some 3 := by kernel_rfl
theorem tTab : (Tryz.prog.globals[3]?).map (·.type) = some 251 := by kernel_rfl
theorem cTab : Tryz.prog.cellsOf 251 = 20 := by kernel_rfl
theorem cTabE : Tryz.prog.cellsOf 117 = 1 := by kernel_rfl
theorem dTab : (Rows.laid_internal_strconv_uint64pow10 : DataW Unit) = Lib.tabData .u64 Lib.pow10Tab := by rfl

/-- What the condition gives the walk. -/
theorem makes_tab {W : World} (h : laidMetH Tryz.prog Rows.fracMakesRow.laid W) : Tab W := by
  rw [MakeChecks.laidMetH_plain _ _ _ (by kernel_rfl)] at h
  obtain ⟨ps, ⟨g0, t0, cs0, f0, p0, q0, hg0, ht0, hv0, hd0, ⟨g1, t1, cs1, f1, p1, q1, hg1, ht1, hv1, hd1, ⟨g2, t2, cs2, f2, p2, q2, hg2, ht2, hv2, hd2, _, _⟩, _⟩, _⟩, _, _⟩ := h
  obtain rfl := Option.some.inj (gTab.symm.trans hg2)
  obtain rfl := Option.some.inj (tTab.symm.trans ht2)
  rw [dTab] at hd2
  unfold Tab Lib.TabIs
  rw [hv2, ← Lib.cells_of_tab Tryz.underlying251 Tryz.underlying117 cTabE cTab hd2]

theorem makes_door (os : Os) (args : Array Value) : laidMetH Tryz.prog Rows.fracMakesRow.laid ((World.doorLaid Tryz.prog 400 os).forCall (fun _ _ => 0) ⟨#[], args, []⟩).memory :=
  laidMetH_of_parts3 (fuel := 8) (laidMet_of_run' 8 (by kernel_rfl) (by kernel_rfl)) (by kernel_rfl) (by kernel_rfl)

set_option maxRecDepth 100000 in
theorem makes_lifted (os : Os) (started : os.Started) (H : Type) (enc : TypeId × Value → H) :
    ReturnsInHanded {} Tryz.checked os 3 .any (fun w args => (Rows.fracMakesSpec.pre enc Tryz.prog Tryz.f3 [] false w args ∧ laidMetH Tryz.prog Rows.fracMakesRow.laid w) ∧ sizedMet enc Tryz.prog Tryz.f3 (OpenSpec.ofChange Rows.fracMakesSpec) false w args)
      (Rows.fracMakesSpec.post enc Tryz.prog Tryz.f3 false true false false) := by
  refine returnsInHanded_of_change_and (C := Tryz.checked) (X := fun w _ => laidMetH Tryz.prog Rows.fracMakesRow.laid w) (fun _ _ _ hh h => h.of_heap hh) own started (by kernel_rfl) Tryz.func3
    (ChangeSpec.witness_shaped (enc := enc) (C := Tryz.checked) (os := os) (X := fun w _ => laidMetH Tryz.prog Rows.fracMakesRow.laid w) false (World.doorLaid Tryz.prog 400 os) #[.int .i64 1, .int .i64 2] 8 rfl (World.shaped_of_RefB (by kernel_rfl) (by kernel_rfl)) (by kernel_rfl) (by kernel_rfl) (by kernel_rfl) (makes_door os _)) ?_
  intro W base args ds gs before hval0 hW _ _ hL _
  have hval : ∀ (j : Nat) t v, Tryz.f3.params[j]? = some t → args[j]? = some v → Value.okWide Tryz.prog W .any base t v := hval0
  have hW' := hW
  obtain ⟨p, q, hA0, hV, rfl, hfz, hnd⟩ := hW
  have hA : DataW.TrodAll enc Tryz.prog W 0 (fun _ => true) true Tryz.f3.params.toList args.toList ds p := hA0
  rw [Tryz.params3] at hA hval
  obtain ⟨v0, v1, d0, d1, p0, p1, rfl, rfl, rfl, h0, h1⟩ := trodAll_two hA
  obtain ⟨rfl, rfl⟩ := trodVars_none hV
  obtain ⟨m, rfl, rfl, rfl, hm⟩ := open_int Tryz.underlying2 (hval 0 2 v0 rfl rfl) h0
  obtain ⟨n, rfl, rfl, rfl, hn⟩ := open_int Tryz.underlying2 (hval 1 2 v1 rfl rfl) h1
  clear hA0 hval0
  have hm' : -9223372036854775808 ≤ m ∧ m ≤ 9223372036854775807 := by simpa [Lit.wf, IntKind.min, IntKind.max, IntKind.signed, IntKind.bits] using hm
  have hn' : -9223372036854775808 ≤ n ∧ n ≤ 9223372036854775807 := by simpa [Lit.wf, IntKind.min, IntKind.max, IntKind.signed, IntKind.bits] using hn
  simp only [List.append_nil] at hW'
  refine Calls.mono (fracMakes_c (m := m) (n := n) (makes_tab hL) hm'.1 hm'.2 hn'.1 hn'.2) fun e W' ⟨v, he, hv, hw⟩ => ?_
  subst he hv
  refine ⟨_, rfl, _, _, _, [], [], [], hW', ?_, ?_, rfl, hw.below.frame _, fun h => by cases h⟩
  · exact trodAll_mk1 (shut_bool Tryz.underlying4 _)
  · exact trodAll_mk2 (shut_int Tryz.underlying2 hm) (shut_int Tryz.underlying2 hn)

theorem makes_row : Rows.FracMakesSaid :=
  OpenClaim.holds_of_wide 3 Tryz.f3 rfl rfl rfl rfl rfl rfl rfl ⟨rfl, rfl, rfl, rfl, rfl⟩ rfl rfl rfl rfl rfl (by kernel_rfl) Tryz.func3 (by kernel_rfl)
    (of_decide_eq_true (by kernel_rfl)) (by unfold Func.isWrapper; first | (rw [if_pos (by decide +kernel)]; kernel_rfl) | (rw [if_neg (by decide +kernel)]; exact ⟨rfl, rfl⟩))
    (fun os started H enc _ => makes_lifted os started H enc)

theorem makes_holds : Rows.FracMakesCardSaid :=
  Claim7.holds_tied_plain_at .later [] [.data, .data, .data] true (true, "650b10b7f83fe311f89b80045fa31e214c315223ee2619adf08cc50f1eb5f2c2") true
    makes_row (fun _ h => by cases h) (by kernel_rfl) (fun _ h => by cases h) fracMakes_row_tie rfl ⟨rfl, rfl⟩ (by kernel_rfl) rfl
    (fun f fn hf hfn => by
      obtain rfl : f = 3 := Option.some.inj ((show Tryz.prog.funcNamed "rabbet/rabbetlaw01.FracMakes" = some 3 by kernel_rfl).symm.trans hf) |>.symm
      obtain rfl : fn = Tryz.f3 := (Option.some.inj (Tryz.func3.symm.trans hfn)).symm
      exact ⟨by kernel_rfl, fun j t ht => by
        rw [Tryz.params3] at ht
        have h3 : t = 2 := by
          rcases j with _ | _ | j
          · simpa using ht.symm
          · simpa using ht.symm
          · simp at ht
        subst h3
        exact (show Tryz.prog.wantsStandIn 2 = false by kernel_rfl)⟩)
    (by kernel_rfl)
#print axioms makes_holds
end Go.Proofs.YtpmnjjmngogkkaaGreatDoor
end

section
/- The statement FracWholes, proved: for every two strings (of at most 2^47 - 4096 bytes each, as the row reads them) the law returns true and leaves them as they were; the listed tables of the library hold what the program's text lays (the given tie). -/
set_option linter.unusedVariables false
namespace Go.Proofs.YtpmnjjmngogkkaaGreatDoor
open Go Go.ChangeShapes Go.WideShapes Go.ChangeAt Go.WideMaps Go.WideElems Go.RowKit
open Go.ChangeMaps (open_string shut_string)

/-- What the condition of the rows with seven listed variables gives the walks. -/
theorem seven_tab {W : World} (h : laidMetH Tryz.prog Rows.fracWholesRow.laid W) : Tab W := by
  rw [MakeChecks.laidMetH_plain _ _ _ (by kernel_rfl)] at h
  obtain ⟨ps, ⟨g0, t0, cs0, f0, p0, q0, hg0, ht0, hv0, hd0, ⟨g1, t1, cs1, f1, p1, q1, hg1, ht1, hv1, hd1, ⟨g2, t2, cs2, f2, p2, q2, hg2, ht2, hv2, hd2, _⟩, _⟩, _⟩, _⟩ := h
  obtain rfl := Option.some.inj (gTab.symm.trans hg2)
  obtain rfl := Option.some.inj (tTab.symm.trans ht2)
  rw [dTab] at hd2
  unfold Tab Lib.TabIs
  rw [hv2, ← Lib.cells_of_tab Tryz.underlying251 Tryz.underlying117 cTabE cTab hd2]
theorem seven_laid (os : Os) (args : Array Value) : laidMetH Tryz.prog Rows.fracWholesRow.laid ((World.laidAll Tryz.prog os Rows.fracWholesRow.laid).forCall (fun _ _ => 0) ⟨#[], args, []⟩).memory := by
  rw [MakeChecks.laidMetH_plain _ _ _ (by kernel_rfl)]
  exact laidMet_laidAll _ (by kernel_rfl) (by kernel_rfl)

set_option maxRecDepth 100000 in
theorem wholes_lifted (os : Os) (started : os.Started) (H : Type) (enc : TypeId × Value → H) :
    ReturnsInHanded {} Tryz.checked os 4 .any (fun w args => (Rows.fracWholesSpec.pre enc Tryz.prog Tryz.f4 [] false w args ∧ laidMetH Tryz.prog Rows.fracWholesRow.laid w) ∧ sizedMet enc Tryz.prog Tryz.f4 (OpenSpec.ofChange Rows.fracWholesSpec) false w args)
      (Rows.fracWholesSpec.post enc Tryz.prog Tryz.f4 false true false false) := by
  refine returnsInHanded_of_change_and (C := Tryz.checked) (X := fun w _ => laidMetH Tryz.prog Rows.fracWholesRow.laid w) (fun _ _ _ hh h => h.of_heap hh) own started (by kernel_rfl) Tryz.func4
    (ChangeSpec.witness_shaped (enc := enc) (C := Tryz.checked) (os := os) (X := fun w _ => laidMetH Tryz.prog Rows.fracWholesRow.laid w) false (World.laidAll Tryz.prog os Rows.fracWholesRow.laid) #[.string ⟨#[]⟩, .string ⟨#[]⟩] 8 (World.laidAll_os _ _ _) (World.shaped_of_ZipB (by kernel_rfl) (by kernel_rfl)) (by kernel_rfl) (by kernel_rfl) (by kernel_rfl) (seven_laid os _)) ?_
  intro W base args ds gs before hval0 hW _ hsz0 hL _
  have hval : ∀ (j : Nat) t v, Tryz.f4.params[j]? = some t → args[j]? = some v → Value.okWide Tryz.prog W .any base t v := hval0
  have hW' := hW
  obtain ⟨p, q, hA0, hV, rfl, hfz, hnd⟩ := hW
  have hA : DataW.TrodAll enc Tryz.prog W 0 (fun _ => true) true Tryz.f4.params.toList args.toList ds p := hA0
  have hsz : (DataW.weightsEach Tryz.prog (Tryz.f4.params.toList ++ Rows.fracWholesSpec.plain.varTypes Tryz.prog) (ds ++ gs)).all (· ≤ reachBytes) = true := hsz0
  rw [Tryz.params4] at hA hval hsz
  obtain ⟨v0, v1, d0, d1, p0, p1, rfl, rfl, rfl, h0, h1⟩ := trodAll_two hA
  obtain ⟨rfl, rfl⟩ := trodVars_none hV
  obtain ⟨s, rfl, rfl, rfl, hs⟩ := open_string Tryz.underlying9 (hval 0 9 v0 rfl rfl) h0
  obtain ⟨u, rfl, rfl, rfl, hu⟩ := open_string Tryz.underlying9 (hval 1 9 v1 rfl rfl) h1
  clear hA0 hval0 hsz0
  have ls : s.data.toList.length ≤ 140737488351232 := sized_string hsz (j := 0) rfl rfl
  have lu : u.data.toList.length ≤ 140737488351232 := sized_string hsz (j := 1) rfl rfl
  simp only [List.append_nil] at hW'
  refine Calls.mono (fracWholes_c (s := s.data.toList) (t := u.data.toList) (seven_tab hL) ls lu) fun e W' ⟨v, he, hv, hw⟩ => ?_
  subst he hv
  refine ⟨_, rfl, _, _, _, [], [], [], hW', ?_, ?_, rfl, hw.below.frame _, fun h => by cases h⟩
  · exact trodAll_mk1 (shut_bool Tryz.underlying4 _)
  · exact trodAll_mk2 (shut_string Tryz.underlying9 hs) (shut_string Tryz.underlying9 hu)

theorem wholes_row : Rows.FracWholesSaid :=
  OpenClaim.holds_of_wide 4 Tryz.f4 rfl rfl rfl rfl rfl rfl rfl ⟨rfl, rfl, rfl, rfl, rfl⟩ rfl rfl rfl rfl rfl (by kernel_rfl) Tryz.func4 (by kernel_rfl)
    (of_decide_eq_true (by kernel_rfl)) (by unfold Func.isWrapper; first | (rw [if_pos (by decide +kernel)]; kernel_rfl) | (rw [if_neg (by decide +kernel)]; exact ⟨rfl, rfl⟩))
    (fun os started H enc _ => wholes_lifted os started H enc)

theorem wholes_holds : Rows.FracWholesCardSaid :=
  Claim7.holds_tied_plain_at .later [] [.data, .data, .data, .data, .sentinel, .sentinel, .pinned] true (true, "650b10b7f83fe311f89b80045fa31e214c315223ee2619adf08cc50f1eb5f2c2") true
    wholes_row (fun _ h => by cases h) (by kernel_rfl) (fun _ h => by cases h) fracWholes_row_tie rfl ⟨rfl, rfl⟩ (by kernel_rfl) rfl
    (fun f fn hf hfn => by
      obtain rfl : f = 4 := Option.some.inj ((show Tryz.prog.funcNamed "rabbet/rabbetlaw01.FracWholes" = some 4 by kernel_rfl).symm.trans hf) |>.symm
      obtain rfl : fn = Tryz.f4 := (Option.some.inj (Tryz.func4.symm.trans hfn)).symm
      exact ⟨by kernel_rfl, fun j t ht => by
        rw [Tryz.params4] at ht
        have h3 : t = 9 := by
          rcases j with _ | _ | j
          · simpa using ht.symm
          · simpa using ht.symm
          · simp at ht
        subst h3
        exact (show Tryz.prog.wantsStandIn 9 = false by kernel_rfl)⟩)
    (by kernel_rfl)
#print axioms wholes_holds
end Go.Proofs.YtpmnjjmngogkkaaGreatDoor
end
