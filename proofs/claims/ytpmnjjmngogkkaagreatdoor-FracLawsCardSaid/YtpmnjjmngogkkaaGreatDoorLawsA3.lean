/- Awake -/
import Derived.Test.YtpmnjjmngogkkaaGreatDoorRefu
import Derived.Test.YtpmnjjmngogkkaaGreatDoorEq
section
/- What the program does whatever the input is. -/
set_option linter.unusedVariables false
set_option linter.unusedSimpArgs false
namespace Go.Proofs.YtpmnjjmngogkkaaGreatDoor
open Go Go.RowKit

theorem big_pos : 1000 < Big := Nat.lt_of_lt_of_le (by decide) (Nat.le_trans (pow_mono_b (i := 2) (j := 3344) (by decide)) big_low)

def third : Rat := mkRat (1 * (3 : Int).sign) (3 : Int).natAbs
def sixth : Rat := mkRat (1 * (6 : Int).sign) (6 : Int).natAbs
theorem half_num : (third + sixth).num = 1 := by decide +kernel
theorem half_den : (third + sixth).den = 2 := by decide +kernel
theorem half_fits : Fits (third + sixth) := by
  have := big_pos
  unfold Fits
  rw [half_num, half_den]
  exact ⟨by show 1 < _; omega, by omega⟩
theorem half_str : rstr (third + sixth) = [49, 47, 50] := by
  unfold rstr Lib.itoa
  rw [half_num, half_den, if_neg (by decide), if_neg (by decide), show (1 : Int).toNat = 1 from rfl, Lib.decDigits_one (by decide), Lib.decDigits_one (by decide)]
  rfl
theorem q_str : Lib.itoa (-7 / 2) = [45, 52] := by
  rw [show (-7 / 2 : Int) = -4 by decide]
  unfold Lib.itoa
  rw [if_pos (by decide), show (-4 : Int).natAbs = 4 from rfl, Lib.decDigits_one (by decide)]
  rfl
theorem r_str : Lib.itoa (-7 % 2) = [49] := by
  rw [show (-7 % 2 : Int) = 1 by decide]
  unfold Lib.itoa
  rw [if_neg (by decide), show (1 : Int).toNat = 1 from rfl, Lib.decDigits_one (by decide)]
  rfl
theorem rl_of {q : Rat} {n m : Nat} (hn : 0 < n) (h1 : q.num.natAbs < 1000000000) (h2 : q.den < 1000000000) : rl q n := by
  have h : ∀ a, a < 1000000000 → dl a ≤ n := fun a ha => Nat.le_trans (dl_le (k := 1) (by omega)) hn
  exact ⟨h _ h1, h _ h2⟩

set_option maxRecDepth 100000 in
set_option maxHeartbeats 8000000 in
theorem awake_c {w : World} (ht : Tab w) : Gives Tryz.prog 20 [] w fun v' w' => v' = .bool true ∧ Ext w w' := by
  have hS : Up All w := Up.all
  refine gives_of Tryz.func20 rfl rfl rfl ?_
  repeat (first | refine wp_seq_region ?_ | refine wp_region ?_ | refine r_assign (by conv => (lhs; whnf)) ?_ | refine r_nil ?_)
  refine r_call (make_c (a := 1) (b := 3) hS (by decide) (by decide) (by decide) (by decide) (by decide)) rfl ?_
  rintro v1 w1 ⟨v, rfl, k, h1⟩
  replace h1 : RatV All w1 v third := h1
  obtain ⟨t1, rfl, h1, o11, o12, o13⟩ := RatV.tri h1
  repeat (first | refine r_move (by conv => (lhs; whnf)) ?_ | refine r_extract rfl rfl ?_)
  refine r_alloc (cs := [.bool false, .slice none 0 0, .slice none 0 0]) rfl ?_
  intro w2 g1 k2 hg1 hgs1
  have hsz1 := k.size
  replace h1 := h1.to k2
  refine r_store3 rfl rfl hg1 rfl o11 o12 o13 ?_
  intro w3 k3 hg13
  replace h1 := h1.wrT k3 hg1 (by decide)
  replace k := (k.trans k2).past k3 (by omega)
  replace hg1 : Blk w3 g1 34 (flat [t1]) := hg13
  clear k2 k3 hg13
  repeat (first | refine wp_seq_region ?_ | refine wp_region ?_ | refine r_assign (by conv => (lhs; whnf)) ?_ | refine r_nil ?_)
  refine r_call (make_c (a := 1) (b := 6) (hS.to k) (by decide) (by decide) (by decide) (by decide) (by decide)) rfl ?_
  rintro v4 w4 ⟨v, rfl, k4, h2⟩
  replace h2 : RatV All w4 v sixth := h2
  obtain ⟨t2, rfl, h2, o21, o22, o23⟩ := RatV.tri h2
  have hl1 := hg1.lt
  have hsz4 := k4.size
  replace hg1 := hg1.to k4
  replace h1 := h1.to k4
  replace k := k.trans k4
  repeat (first | refine r_move (by conv => (lhs; whnf)) ?_ | refine r_extract rfl rfl ?_)
  refine r_alloc (cs := [.bool false, .slice none 0 0, .slice none 0 0]) rfl ?_
  intro w5 g2 k5 hg2 hgs2
  replace hg1 := hg1.to k5
  replace h1 := h1.to k5
  replace h2 := h2.to k5
  refine r_store3 rfl rfl hg2 rfl o21 o22 o23 ?_
  intro w6 k6 hg26
  have hsz := k.size
  replace h1 := h1.wrT k6 hg2 (by decide)
  replace h2 := h2.wrT k6 hg2 (by decide)
  replace hg1 := hg1.wr k6 (by omega)
  replace k := (k.trans k5).past k6 (by omega)
  replace hg2 : Blk w6 g2 34 (flat [t2]) := hg26
  clear k4 k5 k6 hg26
  repeat (first | refine r_load_tri 0 rfl (by decide) hg1 rfl ?_ | refine r_load_tri 0 rfl (by decide) hg2 rfl ?_ | refine wp_seq_region ?_ | refine wp_region ?_ | refine r_assign (by conv => (lhs; whnf)) ?_ | refine r_nil ?_)
  refine r_call (radd_c (hS.to k) h1 h2 (rl_of (m := 0) (by decide) (by decide +kernel) (by decide +kernel)) (rl_of (m := 0) (by decide) (by decide +kernel) (by decide +kernel))) rfl ?_
  rintro v7 w7 ⟨k7, r, e, rfl, hor⟩
  have h3 : e = 0 ∧ RatV All w7 r (third + sixth) := by
    rcases hor with ⟨_, h, h'⟩ | ⟨h, _⟩
    · exact ⟨h, h'⟩
    · exact absurd half_fits h
  clear hor
  obtain ⟨rfl, h3⟩ := h3
  obtain ⟨t3, rfl, h3, o31, o32, o33⟩ := RatV.tri h3
  replace k := k.trans k7
  clear h1 h2 hg1 hg2 o11 o12 o13 o21 o22 o23 k7 hgs1 hgs2 hl1 hsz4
  repeat (first | refine r_move (by conv => (lhs; whnf)) ?_ | refine r_extract rfl rfl ?_)
  refine r_alloc (cs := [.bool false, .slice none 0 0, .slice none 0 0]) rfl ?_
  intro w8 g3 k8 hg3 hgs3
  replace h3 := h3.to k8
  refine r_store3 rfl rfl hg3 rfl o31 o32 o33 ?_
  intro w9 k9 hg39
  have hsz7 := k.size
  replace h3 := h3.wrT k9 hg3 (by decide)
  replace k := (k.trans k8).past k9 (by omega)
  replace hg3 : Blk w9 g3 34 (flat [t3]) := hg39
  clear k8 k9 hg39
  repeat (first | refine wp_seq_region ?_ | refine wp_region ?_ | refine r_assign (by conv => (lhs; whnf)) ?_ | refine r_nil ?_)
  refine r_call (whole_c (z := -7) (hS.to k) (by decide) (by decide)) rfl ?_
  rintro v10 w10 ⟨k10, hz1⟩
  skip
  refine r_call (whole_c (z := 2) ((hS.to k).to k10) (by decide) (by decide)) rfl ?_
  rintro v11 w11 ⟨k11, hz2⟩
  skip
  refine r_call (idiv_c (((hS.to k).to k10).to k11) (hz1.to k11) hz2 (Nat.le_trans (dl_le (k := 1) (by decide)) (by decide)) (Nat.le_trans (dl_le (k := 1) (by decide)) (by decide)) (by decide)) rfl ?_
  rintro v12 w12 ⟨vq, vr, rfl, k12, ⟨mq, rfl, hq⟩, ⟨mr, rfl, hr⟩⟩
  have kk := (k10.trans k11).trans k12
  have hg3l := hg3.lt
  have hszk := kk.size
  replace hg3 := hg3.to kk
  replace h3 := h3.to kk
  replace k := k.trans kk
  clear kk k10 k11 k12 hz1 hz2
  repeat (first | refine r_move (by conv => (lhs; whnf)) ?_ | refine r_extract rfl rfl ?_)
  refine r_alloc (cs := [.bool false, .slice none 0 0]) rfl ?_
  intro w13 g7 k13 hg7 hgs7
  skip
  refine r_alloc (cs := [.bool false, .slice none 0 0]) rfl ?_
  intro w14 g8 k14 hg8 hgs8
  have hg7l := hg7.lt
  replace hg7 := hg7.to k14
  have k134 := k13.trans k14
  replace hg3 := hg3.to k134
  replace h3 := h3.to k134
  replace hq := hq.to k134
  replace hr := hr.to k134
  have hsz12 := k.size
  have hsz13 := k13.size
  replace k := k.trans k134
  refine r_store2 rfl rfl hg7 rfl hq.one ?_
  intro w15 k15 hg75
  replace h3 := h3.wrT k15 hg7 (by decide)
  replace hq := hq.wrT k15 hg7 (by decide)
  replace hr := hr.wrT k15 hg7 (by decide)
  replace hg3 := hg3.wr k15 (by omega)
  replace hg8 := hg8.wr k15 (by omega)
  replace k := k.past k15 (by omega)
  refine r_store2 rfl rfl hg8 rfl hr.one ?_
  intro w16 k16 hg86
  replace h3 := h3.wrT k16 hg8 (by decide)
  replace hq := hq.wrT k16 hg8 (by decide)
  replace hr := hr.wrT k16 hg8 (by decide)
  replace hg7 := hg75.wr k16 (by omega)
  replace hg3 := hg3.wr k16 (by omega)
  replace k := k.past k16 (by omega)
  replace hg8 := hg86
  clear k13 k14 k134 k15 k16 hg75 hg86
  repeat (first | refine wp_seq_region ?_ | refine wp_region ?_ | refine r_assign (by conv => (lhs; whnf)) ?_ | refine r_nil ?_)
  refine r_call (of_c (z := 1) (hS.to k) (by decide) (by decide)) rfl ?_
  rintro v17 w17 ⟨k17, h4⟩
  obtain ⟨t4, rfl, h4, o41, o42, o43⟩ := RatV.tri h4
  have hg7l' := hg7.lt
  have hg8l' := hg8.lt
  have hg3l' := hg3.lt
  have hsz17 := k17.size
  replace hg3 := hg3.to k17
  replace h3 := h3.to k17
  replace hq := hq.to k17
  replace hr := hr.to k17
  replace hg7 := hg7.to k17
  replace hg8 := hg8.to k17
  replace k := k.trans k17
  refine r_alloc (cs := [.bool false, .slice none 0 0, .slice none 0 0]) rfl ?_
  intro w18 g4 k18 hg4 hgs4
  replace hg3 := hg3.to k18
  replace h3 := h3.to k18
  replace hq := hq.to k18
  replace hr := hr.to k18
  replace hg7 := hg7.to k18
  replace hg8 := hg8.to k18
  replace h4 := h4.to k18
  have hszz := k.size
  refine r_store3 rfl rfl hg4 rfl o41 o42 o43 ?_
  intro w19 k19 hg49
  replace h3 := h3.wrT k19 hg4 (by decide)
  replace hq := hq.wrT k19 hg4 (by decide)
  replace hr := hr.wrT k19 hg4 (by decide)
  replace h4 := h4.wrT k19 hg4 (by decide)
  replace hg3 := hg3.wr k19 (by omega)
  replace hg7 := hg7.wr k19 (by omega)
  replace hg8 := hg8.wr k19 (by omega)
  replace k := (k.trans k18).past k19 (by omega)
  replace hg4 : Blk w19 g4 34 (flat [t4]) := hg49
  clear k17 k18 k19 hg49 hgs4 hgs7 hgs8 hgs3 hg7l hg3l hsz hsz1 hsz7 hsz12 hsz13 hsz17 hszz hszk hg7l' hg8l' hg3l'
  have hS19 := hS.to k
  repeat (first | refine wp_seq_region ?_ | refine r_nil ?_)
  refine wp_drawn 11 (by kernel_rfl) (by kernel_rfl) ?_
  apply ob_step
  · intro x w1 k1 hd
    refine r_load_tri 0 rfl (by decide) (hg4.to k1) rfl ?_
    refine r_nil ?_
    exact ob_eq
  apply ob_step
  · intro x w1 k1 hd
    refine r_load_tri 0 rfl (by decide) (hg4.to k1) rfl ?_
    refine r_nil ?_
    exact ob_eq
  refine ob_step (e := Ent.of (fun v w => ∃ g, v = .slice (some ⟨g, 0, none⟩) 2 2 ∧ Blk w g 34 (flat [t4, t4])) (fun v w w' ⟨g, h, hb⟩ k => ⟨g, h, hb.to k⟩)) ?_ ?_
  · intro x w1 k1 hd
    refine r_lit_tri2 rfl rfl ?_
    intro w2 g k2 hg _
    exact r_nil (ob_of k2 ⟨g, rfl, hg⟩)
  refine ob_step (e := Ent.of (fun v w => ∃ gl gr, v = .slice (some ⟨gl, 0, none⟩) 1 1 ∧ Blk w gl 95 [.slice (some ⟨gr, 0, none⟩) 2 2] ∧ Blk w gr 34 (flat [t4, t4])) (fun v w w' ⟨g, gr, h, hb, hr⟩ k => ⟨g, gr, h, hb.to k, hr.to k⟩)) ?_ ?_
  · intro x w1 k1 hd
    obtain ⟨g, hx, hg⟩ : ∃ g, x 2 = .slice (some ⟨g, 0, none⟩) 2 2 ∧ Blk w1 g 34 (flat [t4, t4]) := hd.1
    refine r_lit1 (v := .slice (some ⟨g, 0, none⟩) 2 2) hx rfl ?_
    intro w2 gl k2 hgl _
    exact r_nil (ob_of k2 ⟨gl, g, rfl, hgl, hg.to k2⟩)
  refine ob_step (e := ratE All ((-1 : Int) : Rat)) ?_ ?_
  · intro x w1 k1 hd
    refine r_call (of_c (z := -1) (hS19.to k1) (by decide) (by decide)) rfl ?_
    rintro v2 w2 ⟨k2, h2⟩
    exact r_nil (ob_of k2 h2)
  refine ob_step (e := Ent.of (fun v w => ∃ (g : Nat) (t : Tri), v = .slice (some ⟨g, 0, none⟩) 1 1 ∧ Blk w g 34 (flat [t]) ∧ RatV All w (Tri.val t) (-1)) (fun v w w' ⟨g, t, h, hb, hr⟩ k => ⟨g, t, h, hb.to k, hr.to k⟩)) ?_ ?_
  · intro x w1 k1 hd
    obtain ⟨t, hx, htr, p1, p2, p3⟩ := RatV.tri (show RatV All w1 (x 4) ((-1 : Int) : Rat) from hd.1)
    refine r_lit_tri1 (u := t) hx p1 p2 p3 ?_
    intro w2 g k2 hg _
    exact r_nil (ob_of k2 ⟨g, t, rfl, hg, htr.to k2⟩)
  refine ob_step (e := Ent.of (fun v w => ∃ (gv capv : Nat) (tv : Tri) (cs : List Value), v = .tuple #[.slice (some ⟨gv, 0, none⟩) 1 capv, .bool true] ∧ Blk w gv 34 (tv.1 :: tv.2.1 :: tv.2.2 :: cs) ∧ RatV All w (Tri.val tv) 1) (fun v w w' ⟨g, c, t, cs, h, hb, hr⟩ k => ⟨g, c, t, cs, h, hb.to k, hr.to k⟩)) ?_ ?_
  · intro x w1 k1 hd
    obtain ⟨gb, tb, hxb, hgb, hB⟩ : ∃ (g : Nat) (t : Tri), x 5 = .slice (some ⟨g, 0, none⟩) 1 1 ∧ Blk w1 g 34 (flat [t]) ∧ RatV All w1 (Tri.val t) (-1) := hd.1
    obtain ⟨gl, gr, hxl, hgl, hgr⟩ : ∃ gl gr, x 3 = .slice (some ⟨gl, 0, none⟩) 1 1 ∧ Blk w1 gl 95 [.slice (some ⟨gr, 0, none⟩) 2 2] ∧ Blk w1 gr 34 (flat [t4, t4]) := hd.2.2.1
    refine r_call (refuse_c (capb := 1) (hS19.to k1) ((ht.to k).to k1) hgl hgr (h4.to k1) (h4.to k1) hgb hB) (args2 hxl hxb) ?_
    rintro v2 w2 ⟨k2, h2⟩
    exact r_nil (ob_of k2 h2)
  refine ob_step (e := Ent.of (fun v w => ∃ (gv capv : Nat) (tv : Tri) (cs : List Value), v = .tuple #[.slice (some ⟨gv, 0, none⟩) 1 capv, .bool true] ∧ Blk w gv 34 (tv.1 :: tv.2.1 :: tv.2.2 :: cs) ∧ RatV All w (Tri.val tv) 1) (fun v w w' ⟨g, c, t, cs, h, hb, hr⟩ k => ⟨g, c, t, cs, h, hb.to k, hr.to k⟩)) ?_ ?_
  · intro x w1 k1 hd
    refine r_move rfl ?_
    exact r_nil (ob_of .refl hd.1)
  refine ob_step (e := Ent.of (fun v w => ∃ (gv capv : Nat) (tv : Tri) (cs : List Value), v = .slice (some ⟨gv, 0, none⟩) 1 capv ∧ Blk w gv 34 (tv.1 :: tv.2.1 :: tv.2.2 :: cs) ∧ RatV All w (Tri.val tv) 1) (fun v w w' ⟨g, c, t, cs, h, hb, hr⟩ k => ⟨g, c, t, cs, h, hb.to k, hr.to k⟩)) ?_ ?_
  · intro x w1 k1 hd
    obtain ⟨gv, capv, tv, cs, hx, hg, hv⟩ : ∃ (gv capv : Nat) (tv : Tri) (cs : List Value), x 7 = .tuple #[.slice (some ⟨gv, 0, none⟩) 1 capv, .bool true] ∧ Blk w1 gv 34 (tv.1 :: tv.2.1 :: tv.2.2 :: cs) ∧ RatV All w1 (Tri.val tv) 1 := hd.1
    refine r_extract hx rfl ?_
    exact r_nil (ob_of .refl ⟨gv, capv, tv, cs, rfl, hg, hv⟩)
  refine ob_step (e := Ent.eq (.bool true)) ?_ ?_
  · intro x w1 k1 hd
    obtain ⟨gv, capv, tv, cs, hx, hg, hv⟩ : ∃ (gv capv : Nat) (tv : Tri) (cs : List Value), x 7 = .tuple #[.slice (some ⟨gv, 0, none⟩) 1 capv, .bool true] ∧ Blk w1 gv 34 (tv.1 :: tv.2.1 :: tv.2.2 :: cs) ∧ RatV All w1 (Tri.val tv) 1 := hd.2.1
    refine r_extract hx rfl ?_
    exact r_nil ob_eq
  refine ob_step (e := Ent.of (fun v w => ∃ (gv capv : Nat) (tv : Tri) (cs : List Value), v = .slice (some ⟨gv, 0, none⟩) 1 capv ∧ Blk w gv 34 (tv.1 :: tv.2.1 :: tv.2.2 :: cs) ∧ RatV All w (Tri.val tv) 1) (fun v w w' ⟨g, c, t, cs, h, hb, hr⟩ k => ⟨g, c, t, cs, h, hb.to k, hr.to k⟩)) ?_ ?_
  · intro x w1 k1 hd
    refine r_assign rfl ?_
    exact r_nil (ob_of .refl hd.2.1)
  refine ob_nil (ob_end ?_)
  intro x w20 k20 hall
  obtain ⟨gv, capv, tv, cs, hxv, hgv, hv⟩ : ∃ (gv capv : Nat) (tv : Tri) (cs : List Value), x 10 = .slice (some ⟨gv, 0, none⟩) 1 capv ∧ Blk w20 gv 34 (tv.1 :: tv.2.1 :: tv.2.2 :: cs) ∧ RatV All w20 (Tri.val tv) 1 := hall.1
  refine r_learn 11 hxv ?_
  replace hg3 := hg3.to k20
  replace h3 := h3.to k20
  replace hq := hq.to k20
  replace hr := hr.to k20
  replace hg7 := hg7.to k20
  replace hg8 := hg8.to k20
  replace k := k.trans k20
  clear hall k20 h4 hg4
  have ht20 := ht.to k
  repeat (first | refine r_load_tri 0 rfl (by decide) hg3 rfl ?_ | refine wp_seq_region ?_ | refine wp_region ?_ | refine r_move (by conv => (lhs; whnf)) ?_ | refine r_assign (by conv => (lhs; whnf)) ?_ | refine r_nil ?_ | refine r_guard_run rfl rfl ?_ | refine r_pick_true rfl (by conv => (lhs; whnf)) ?_ | refine r_eql rfl rfl ?_ | refine r_guard_yes rfl rfl (by omega) ?_)
  refine r_call (rstr_c (v := t3.val) ht20 h3 (rl_of (m := 0) (by decide) (by rw [half_num]; decide) (by rw [half_den]; decide))) rfl ?_
  rintro v21 w21 ⟨rfl, k21⟩
  refine r_guard_run rfl rfl ?_
  refine r_eqlS rfl rfl ?_
  repeat (first | refine r_move (by conv => (lhs; whnf)) ?_ | refine r_pick_true rfl (by conv => (lhs; whnf)) ?_)
  refine r_guard_yes rfl rfl half_str ?_
  repeat (first | refine r_load_all rfl (hg7.to k21) rfl ?_ | refine r_guard_run rfl rfl ?_)
  refine r_call (istr_c (a := -7 / 2) (ht20.to k21) ⟨mq, rfl, hq.to k21⟩ (Nat.le_trans (dl_le (k := 1) (by decide)) (by decide))) rfl ?_
  rintro v22 w22 ⟨rfl, k22⟩
  refine r_guard_run rfl rfl ?_
  refine r_eqlS rfl rfl ?_
  repeat (first | refine r_move (by conv => (lhs; whnf)) ?_ | refine r_pick_true rfl (by conv => (lhs; whnf)) ?_)
  refine r_guard_yes rfl rfl q_str ?_
  repeat (first | refine r_load_all rfl ((hg8.to k21).to k22) rfl ?_ | refine r_guard_run rfl rfl ?_)
  refine r_call (istr_c (a := -7 % 2) ((ht20.to k21).to k22) ⟨mr, rfl, (hr.to k21).to k22⟩ (Nat.le_trans (dl_le (k := 1) (by decide)) (by decide))) rfl ?_
  rintro v23 w23 ⟨rfl, k23⟩
  refine r_guard_run rfl rfl ?_
  refine r_eqlS rfl rfl ?_
  repeat (first | refine r_move (by conv => (lhs; whnf)) ?_ | refine r_pick_true rfl (by conv => (lhs; whnf)) ?_)
  refine r_guard_yes rfl rfl r_str ?_
  repeat (first | refine r_move (by conv => (lhs; whnf)) ?_ | refine r_len_sl rfl ?_ | refine r_guard_run rfl rfl ?_ | refine r_pick_true rfl (by conv => (lhs; whnf)) ?_ | refine r_eql rfl rfl ?_ | refine r_index_sl rfl rfl (by omega) (by omega) ?_ | refine r_guard_yes rfl rfl (by omega) ?_)
  have k3 := (k21.trans k22).trans k23
  replace hgv := hgv.to k3
  replace hv := hv.to k3
  repeat (first | refine r_load_part rfl hgv rfl rfl ?_ | refine r_guard_run rfl rfl ?_)
  refine r_call (rsign_c (v := tv.val) hv) rfl ?_
  rintro v24 w24 ⟨rfl, k24⟩
  repeat (first | refine r_assign (by conv => (lhs; whnf)) ?_ | refine r_nil ?_ | refine q_then ?_ | refine wp_ret ?_ | refine r_guard_run rfl rfl ?_ | refine r_pick_true rfl (by conv => (lhs; whnf)) ?_ | refine r_gtr rfl rfl ?_)
  refine end_tmp rfl (by conv => (lhs; whnf)) ⟨?_, (k.trans k3).trans k24⟩
  exact congrArg Value.bool (tst_true (by decide))
end Go.Proofs.YtpmnjjmngogkkaaGreatDoor
end
