/- The simplex of one row, two columns, all of them 1, and the right side -1. -/
import Derived.Test.YtpmnjjmngogkkaaGreatDoorTake
set_option linter.unusedVariables false
set_option linter.unusedSimpArgs false
namespace Go.Proofs.YtpmnjjmngogkkaaGreatDoor
open Go Go.RowKit

def zTri : Tri := (.bool false, .slice none 0 0, .slice none 0 0)
theorem zTri_rat {S : Nat → Prop} {w : World} : RatV S w zTri.val 0 := zero_rat
theorem made_flat (a b c : Value) (n : Nat) : (madeCells #[a, b, c] (n * 3)).toList = flat (List.replicate n (a, b, c)) := by
  have key : ∀ n, (List.range (n * 3)).map (fun i => (#[a, b, c] : Array Value)[i % 3]!) = flat (List.replicate n (a, b, c)) := by
    intro n
    induction n with
    | zero => rfl
    | succ n ih =>
      rw [show (n + 1) * 3 = n * 3 + 1 + 1 + 1 by omega, List.range_succ, List.range_succ, List.range_succ, List.map_append, List.map_append, List.map_append, ih, List.replicate_succ', flat_append]
      have e0 : n * 3 % 3 = 0 := by omega
      have e1 : (n * 3 + 1) % 3 = 1 := by omega
      have e2 : (n * 3 + 1 + 1) % 3 = 2 := by omega
      simp [e0, e1, e2, flat]
  rw [← key n]
  simp [madeCells]
theorem rl_le {q : Rat} {n : Nat} (hn : 0 < n) (h1 : q.num.natAbs ≤ 1) (h2 : q.den ≤ 1) : rl q n := by
  have h : ∀ a, a ≤ 1 → dl a ≤ n := fun a ha => Nat.le_trans (dl_le (k := 1) (by omega)) hn
  exact ⟨h _ h1, h _ h2⟩
theorem rl_zero : rl 0 400000000000 := rl_le (by decide) (by decide) (by decide)
theorem rl_one {n : Nat} (hn : 0 < n) : rl ((1 : Int) : Rat) n := rl_le hn (by decide) (by decide)
theorem take_eq : takeL ((1 : Int) : Rat) [0, 0, 0 + ((1 : Int) : Rat), 0] [-1, -1, ((1 : Int) : Rat), - (-1)] = [1, 1, 0, -1] := by decide +kernel
theorem small_d : ∀ q ∈ ([0, 0, 0 + ((1 : Int) : Rat), 0] : List Rat), rl q 100000000000 := by
  intro q hq
  have h : ([0, 0, 0 + ((1 : Int) : Rat), 0] : List Rat).all (fun q => decide (q.num.natAbs ≤ 1) && decide (q.den ≤ 1)) = true := by decide +kernel
  have := List.all_eq_true.1 h q hq
  simp only [Bool.and_eq_true, decide_eq_true_eq] at this
  exact rl_le (by decide) this.1 this.2
theorem small_f : ∀ q ∈ ([-1, -1, ((1 : Int) : Rat), - (-1)] : List Rat), rl q 100000000000 := by
  intro q hq
  have h : ([-1, -1, ((1 : Int) : Rat), - (-1)] : List Rat).all (fun q => decide (q.num.natAbs ≤ 1) && decide (q.den ≤ 1)) = true := by decide +kernel
  have := List.all_eq_true.1 h q hq
  simp only [Bool.and_eq_true, decide_eq_true_eq] at this
  exact rl_le (by decide) this.1 this.2
theorem columns_c {w : World} {gl gr m cap : Nat} (hl : Blk w gl 95 [.slice (some ⟨gr, 0, none⟩) m cap]) :
    Gives Tryz.prog 123 [.slice (some ⟨gl, 0, none⟩) 1 1] w fun v' w' => v' = .int .i64 m ∧ w' = w := by
  refine gives_of Tryz.func123 rfl rfl rfl ?_
  repeat (first | refine r_load_blk rfl hl rfl ?_ | refine wp_seq_region ?_ | refine wp_seq_seq ?_ | refine wp_region ?_ | refine r_move (by conv => (lhs; whnf)) ?_ | refine r_assign (by conv => (lhs; whnf)) ?_ | refine r_nil ?_ | refine q_then ?_ | refine wp_ret ?_ | refine wp_skip ?_ | refine r_len_sl rfl ?_ | refine r_eql rfl rfl ?_ | refine r_index_sl rfl rfl (by omega) (by omega) ?_ | refine wp_cond_no rfl (by omega) ?_)
  exact end_tmp rfl (by conv => (lhs; whnf)) ⟨rfl, rfl⟩
set_option maxRecDepth 100000 in
set_option maxHeartbeats 8000000 in
theorem simplex_c {S : Nat → Prop} {w : World} {gl gr gb capb : Nat} {t1 t2 tb : Tri} (hS : Up S w) (ht : Tab w) (hl : Blk w gl 95 [.slice (some ⟨gr, 0, none⟩) 2 2])
    (hb : Blk w gr 34 (flat [t1, t2])) (h1 : RatV S w t1.val 1) (h2 : RatV S w t2.val 1) (hbb : Blk w gb 34 (flat [tb])) (hB : RatV S w tb.val (-1)) :
    Gives Tryz.prog 134 [.slice (some ⟨gl, 0, none⟩) 1 1, .slice (some ⟨gb, 0, none⟩) 1 capb] w fun v' w' => Ext w w' ∧ ∃ gs gc gg capg rows basic tc, v' = .pointer (some ⟨gs, 0, none⟩) ∧
      Blk w' gs 169 [rows, .slice (some ⟨gc, 0, none⟩) 4 4, basic, .int .i64 2, .slice (some ⟨gg, 0, none⟩) 1 capg] ∧ Blk w' gc 34 (flat tc) ∧ Rats S w' tc [1, 1, 0, -1] ∧ (∃ cs, Blk w' gg 4 (.bool true :: cs)) := by
  have hB0 := hB
  refine gives_of Tryz.func134 rfl rfl rfl ?_
  repeat (first | refine wp_seq_region ?_ | refine wp_region ?_ | refine r_move (by conv => (lhs; whnf)) ?_ | refine r_assign (by conv => (lhs; whnf)) ?_ | refine r_nil ?_)
  refine r_call (columns_c hl) rfl ?_
  rintro v1 w1 ⟨rfl, rfl⟩
  refine r_build (parts := [(3, .tmp 14)]) (zs := [.slice none 0 0, .slice none 0 0, .slice none 0 0, .int .i64 0, .slice none 0 0]) (vs := [(3, .int .i64 2)]) (cs := [.slice none 0 0, .slice none 0 0, .slice none 0 0, .int .i64 2, .slice none 0 0]) rfl rfl (fill_one rfl rfl (by simp) fill_nil) ?_
  refine r_box (cs := [.slice none 0 0, .slice none 0 0, .slice none 0 0, .int .i64 2, .slice none 0 0]) (by conv => (lhs; whnf)) rfl ?_
  intro w2 gs k2 hgs hgss
  have hl2 := hl.to k2
  have hb2 := hb.to k2
  have hbb2 := hbb.to k2
  repeat (first | refine r_nilCheck rfl ?_ | refine r_load_blk rfl hgs rfl ?_ | refine wp_seq_region ?_ | refine wp_region ?_ | refine r_move (by conv => (lhs; whnf)) ?_ | refine r_assign (by conv => (lhs; whnf)) ?_ | refine r_nil ?_ | refine r_len_sl rfl ?_ | refine r_addI rfl rfl (by omega) (by omega) ?_ | refine r_field rfl ?_)
  refine r_make (l := 4) (c := 4) rfl rfl rfl rfl (by decide) (by decide) (by decide) ?_
  intro w3 gc k3 hgc hgcs
  replace hgc : Blk w3 gc 34 (flat [zTri, zTri, zTri, zTri]) := by
    have e := made_flat (.bool false) (.slice none 0 0) (.slice none 0 0) 4
    exact e ▸ hgc
  have hgsl := hgs.lt
  replace hgs := hgs.to k3
  repeat (first | refine r_nilCheck rfl ?_ | refine r_field rfl ?_)
  refine r_store (i := 1) (u := .slice (some ⟨gc, 0, none⟩) 4 4) rfl rfl hgs (show 1 < 5 by decide) rfl ?_
  intro w4 k4 hgs4
  have hgc4 := hgc.wr k4 (by omega)
  have k : Ext w1 w4 := (Keeps.past (k2.trans k3) k4 hgss)
  replace hl2 := hl.to k
  replace hb2 := hb.to k
  replace hbb2 := hbb.to k
  replace h1 := h1.to k
  replace h2 := h2.to k
  replace hB := hB.to k
  repeat (first | refine wp_seq_region ?_ | refine wp_seq_seq ?_ | refine wp_region ?_ | refine r_move (by conv => (lhs; whnf)) ?_ | refine r_nil ?_ | refine q_then ?_ | refine r_len_sl rfl ?_)
  try refine wp_seq_block ?_
  refine unr_for 3 ?_
  repeat (first | refine unr_step ?_ | refine r_load_blk rfl hl2 rfl ?_ | refine wp_seq_region ?_ | refine wp_seq_bseq ?_ | refine wp_region ?_ | refine r_move (by conv => (lhs; whnf)) ?_ | refine r_assign (by conv => (lhs; whnf)) ?_ | refine r_nil ?_ | refine q_then ?_ | refine wp_block_seq ?_ | refine wp_skip ?_ | refine r_lss rfl rfl ?_ | refine r_index_sl rfl rfl (by omega) (by omega) ?_ | refine wp_if_yes rfl (by omega) ?_)
  refine r_make (l := 4) (c := 4) rfl rfl rfl rfl (by decide) (by decide) (by decide) ?_
  intro w5 go k5 hgo hgos
  replace hgo : Blk w5 go 34 (flat [zTri, zTri, zTri, zTri]) := by
    have e := made_flat (.bool false) (.slice none 0 0) (.slice none 0 0) 4
    exact e ▸ hgo
  have hgcl := hgc4.lt
  replace hgs := hgs4.to k5
  replace hgc := hgc4.to k5
  replace k := k.trans k5
  replace hl2 := hl2.to k5
  replace hb2 := hb2.to k5
  replace hbb2 := hbb2.to k5
  replace h1 := h1.to k5
  replace h2 := h2.to k5
  replace hB := hB.to k5
  clear k2 k3 k4 k5 hgs4 hgc4
  repeat (first | refine wp_seq_region ?_ | refine wp_region ?_ | refine r_move (by conv => (lhs; whnf)) ?_ | refine r_assign (by conv => (lhs; whnf)) ?_ | refine r_nil ?_ | refine r_index_sl rfl rfl (by omega) (by omega) ?_)
  refine r_load_tri 0 rfl (by decide) hbb2 rfl ?_
  refine r_call (rsign_c hB) rfl ?_
  rintro v6 w6 ⟨rfl, k6⟩
  replace hgs := hgs.to k6
  replace hgc := hgc.to k6
  replace hgo := hgo.to k6
  replace k := k.trans k6
  replace hl2 := hl2.to k6
  replace hb2 := hb2.to k6
  replace hbb2 := hbb2.to k6
  replace h1 := h1.to k6
  replace h2 := h2.to k6
  replace hB := hB.to k6
  have hgsle : w1.heap.size ≤ gs := hgss
  have hgcle : w1.heap.size ≤ gc := by omega
  have hgole : w1.heap.size ≤ go := by omega
  have hne1 : gs ≠ gc := by omega
  have hne2 : gs ≠ go := by omega
  have hne3 : gc ≠ go := by omega
  clear hgss hgcs hgos hgsl hgcl k6 hl2 hbb2
  repeat (first | refine wp_seq_region ?_ | refine wp_seq_seq ?_ | refine wp_region ?_ | refine r_move (by conv => (lhs; whnf)) ?_ | refine r_assign (by conv => (lhs; whnf)) ?_ | refine r_nil ?_ | refine q_then ?_ | refine r_len_sl rfl ?_ | refine r_lss rfl rfl ?_)
  first | refine wp_seq_block ?_ | refine wp_thenB ?_ | refine wp_thenBB ?_ | skip
  refine wp_mid [(11, 12), (47, 62)] (fun ρ w' => ∃ n0 n1, Ext w1 w' ∧ Blk w' gs 169 [.slice none 0 0, .slice (some ⟨gc, 0, none⟩) 4 4, .slice none 0 0, .int .i64 2, .slice none 0 0] ∧ Blk w' gc 34 (flat [zTri, zTri, zTri, zTri]) ∧ Blk w' go 34 (flat [n0, n1, zTri, zTri]) ∧ RatV S w' n0.val (-1) ∧ RatV S w' n1.val (-1)) ?_ ?_
  · try refine wp_seq_block ?_
    refine unr_for 4 ?_
    repeat (first | refine unr_step ?_ | refine r_load_tri 0 rfl (by decide) hb2 rfl ?_ | refine wp_seq_region ?_ | refine wp_seq_bseq ?_ | refine wp_region ?_ | refine r_move (by conv => (lhs; whnf)) ?_ | refine r_nil ?_ | refine q_then ?_ | refine wp_block_seq ?_ | refine wp_skip ?_ | refine r_lss rfl rfl ?_ | refine r_index_sl rfl rfl (by omega) (by omega) ?_ | refine wp_if_yes rfl (by omega) ?_)
    refine r_alloc (cs := [.bool false, .slice none 0 0, .slice none 0 0]) rfl ?_
    intro w7 gx0 k7 hgx0 hgxs0
    have hgol0 := hgo.lt
    have hgsl0 := hgs.lt
    have hgcl0 := hgc.lt
    have hsz7 := k7.size
    have hksz7 := k.size
    replace hgs := hgs.to k7
    replace hgc := hgc.to k7
    replace hgo := hgo.to k7
    replace h1 := h1.to k7
    replace h2 := h2.to k7
    replace hB := hB.to k7
    replace k := k.trans k7
    have ho0 := h1.ones
    repeat (first | refine r_assign (by conv => (lhs; whnf)) ?_)
    refine r_store3 rfl rfl hgx0 rfl ho0.1 ho0.2.1 ho0.2.2 ?_
    intro w8 k8 hgy0
    replace k := k.past k8 (by omega)
    replace h1 := h1.wrT k8 hgx0 (by decide)
    replace h2 := h2.wrT k8 hgx0 (by decide)
    replace hB := hB.wrT k8 hgx0 (by decide)
    replace hgs := hgs.wr k8 (by omega)
    replace hgc := hgc.wr k8 (by omega)
    replace hgo := hgo.wr k8 (by omega)
    have hgyv0 : Blk w8 gx0 34 (flat [t1]) := hgy0
    clear k7 k8 hgx0 hgy0
    repeat (first | refine r_load_tri 0 rfl (by decide) hgyv0 rfl ?_ | refine wp_seq_region ?_ | refine wp_region ?_ | refine r_move (by conv => (lhs; whnf)) ?_ | refine r_nil ?_ | refine r_index_sl rfl rfl (by omega) (by omega) ?_)
    refine r_store_tri (u := t1) 0 rfl (by decide) rfl hgo (by simp) ho0.1 ho0.2.1 ho0.2.2 ?_
    intro w9 k9 hgo0
    replace k := k.past k9 (by omega)
    replace h1 := h1.wrT k9 hgo (by decide)
    replace h2 := h2.wrT k9 hgo (by decide)
    replace hB := hB.wrT k9 hgo (by decide)
    replace hgs := hgs.wr k9 (by omega)
    replace hgc := hgc.wr k9 (by omega)
    replace hgyv0 := hgyv0.wr k9 (by omega)
    replace hgo := hgo0
    clear k9 hgo0
    repeat (first | refine wp_seq_region ?_ | refine wp_region ?_ | refine r_move (by conv => (lhs; whnf)) ?_ | refine r_nil ?_ | refine q_then ?_)
    first | refine wp_cond_yes rfl (by decide) ?_ | refine wp_if_yes rfl (by decide) ?_ | skip
    repeat (first | refine r_load_tri 0 rfl (by decide) hgyv0 rfl ?_ | refine wp_region ?_ | refine r_move (by conv => (lhs; whnf)) ?_)
    refine r_call (rneg_c (v := Tri.val t1) h1) rfl ?_
    rintro v10 w10 ⟨k10, hn0⟩
    obtain ⟨n0, rfl, hn0, p0, q0, r0⟩ := RatV.tri hn0
    replace hgs := hgs.to k10
    replace hgc := hgc.to k10
    replace hgo := hgo.to k10
    replace h1 := h1.to k10
    replace h2 := h2.to k10
    replace hB := hB.to k10
    replace k := k.trans k10
    repeat (first | refine r_index_sl rfl rfl (by omega) (by omega) ?_)
    refine r_store_tri (u := n0) 0 rfl (by decide) rfl hgo (by simp) p0 q0 r0 ?_
    intro w11 k11 hgo0
    replace k := k.past k11 (by omega)
    replace h1 := h1.wrT k11 hgo (by decide)
    replace h2 := h2.wrT k11 hgo (by decide)
    replace hB := hB.wrT k11 hgo (by decide)
    replace hn0 := hn0.wrT k11 hgo (by decide)
    replace hgs := hgs.wr k11 (by omega)
    replace hgc := hgc.wr k11 (by omega)
    replace hgo := hgo0
    replace hb2 := hb.to k
    clear k10 k11 hgo0 hgyv0 hgol0 hgsl0 hgcl0 hgxs0 hsz7 hksz7
    repeat (first | refine unr_step ?_ | refine r_load_tri 1 rfl (by decide) hb2 rfl ?_ | refine wp_seq_region ?_ | refine wp_seq_bseq ?_ | refine wp_region ?_ | refine r_move (by conv => (lhs; whnf)) ?_ | refine r_nil ?_ | refine q_then ?_ | refine wp_block_seq ?_ | refine wp_skip ?_ | refine r_lss rfl rfl ?_ | refine r_addI rfl rfl (by omega) (by omega) ?_ | refine r_index_sl rfl rfl (by omega) (by omega) ?_ | refine wp_if_yes rfl (by omega) ?_)
    refine r_alloc (cs := [.bool false, .slice none 0 0, .slice none 0 0]) rfl ?_
    intro w12 gx1 k12 hgx1 hgxs1
    have hgol1 := hgo.lt
    have hgsl1 := hgs.lt
    have hgcl1 := hgc.lt
    have hsz12 := k12.size
    have hksz12 := k.size
    replace hgs := hgs.to k12
    replace hgc := hgc.to k12
    replace hgo := hgo.to k12
    replace h1 := h1.to k12
    replace h2 := h2.to k12
    replace hB := hB.to k12
    replace hn0 := hn0.to k12
    replace k := k.trans k12
    have ho1 := h2.ones
    repeat (first | refine r_assign (by conv => (lhs; whnf)) ?_)
    refine r_store3 rfl rfl hgx1 rfl ho1.1 ho1.2.1 ho1.2.2 ?_
    intro w13 k13 hgy1
    replace k := k.past k13 (by omega)
    replace h1 := h1.wrT k13 hgx1 (by decide)
    replace h2 := h2.wrT k13 hgx1 (by decide)
    replace hB := hB.wrT k13 hgx1 (by decide)
    replace hn0 := hn0.wrT k13 hgx1 (by decide)
    replace hgs := hgs.wr k13 (by omega)
    replace hgc := hgc.wr k13 (by omega)
    replace hgo := hgo.wr k13 (by omega)
    have hgyv1 : Blk w13 gx1 34 (flat [t2]) := hgy1
    clear k12 k13 hgx1 hgy1
    repeat (first | refine r_load_tri 0 rfl (by decide) hgyv1 rfl ?_ | refine wp_seq_region ?_ | refine wp_region ?_ | refine r_move (by conv => (lhs; whnf)) ?_ | refine r_nil ?_ | refine r_index_sl rfl rfl (by omega) (by omega) ?_)
    refine r_store_tri (u := t2) 1 rfl (by decide) rfl hgo (by simp) ho1.1 ho1.2.1 ho1.2.2 ?_
    intro w14 k14 hgo1
    replace k := k.past k14 (by omega)
    replace h1 := h1.wrT k14 hgo (by decide)
    replace h2 := h2.wrT k14 hgo (by decide)
    replace hB := hB.wrT k14 hgo (by decide)
    replace hn0 := hn0.wrT k14 hgo (by decide)
    replace hgs := hgs.wr k14 (by omega)
    replace hgc := hgc.wr k14 (by omega)
    replace hgyv1 := hgyv1.wr k14 (by omega)
    replace hgo := hgo1
    clear k14 hgo1
    repeat (first | refine wp_seq_region ?_ | refine wp_region ?_ | refine r_move (by conv => (lhs; whnf)) ?_ | refine r_nil ?_ | refine q_then ?_)
    first | refine wp_cond_yes rfl (by decide) ?_ | refine wp_if_yes rfl (by decide) ?_ | skip
    repeat (first | refine r_load_tri 0 rfl (by decide) hgyv1 rfl ?_ | refine wp_region ?_ | refine r_move (by conv => (lhs; whnf)) ?_)
    refine r_call (rneg_c (v := Tri.val t2) h2) rfl ?_
    rintro v15 w15 ⟨k15, hn1⟩
    obtain ⟨n1, rfl, hn1, p1, q1, r1⟩ := RatV.tri hn1
    replace hgs := hgs.to k15
    replace hgc := hgc.to k15
    replace hgo := hgo.to k15
    replace h1 := h1.to k15
    replace h2 := h2.to k15
    replace hB := hB.to k15
    replace hn0 := hn0.to k15
    replace k := k.trans k15
    repeat (first | refine r_index_sl rfl rfl (by omega) (by omega) ?_)
    refine r_store_tri (u := n1) 1 rfl (by decide) rfl hgo (by simp) p1 q1 r1 ?_
    intro w16 k16 hgo1
    replace k := k.past k16 (by omega)
    replace h1 := h1.wrT k16 hgo (by decide)
    replace h2 := h2.wrT k16 hgo (by decide)
    replace hB := hB.wrT k16 hgo (by decide)
    replace hn1 := hn1.wrT k16 hgo (by decide)
    replace hn0 := hn0.wrT k16 hgo (by decide)
    replace hgs := hgs.wr k16 (by omega)
    replace hgc := hgc.wr k16 (by omega)
    replace hgo := hgo1
    replace hb2 := hb.to k
    clear k15 k16 hgo1 hgyv1 hgol1 hgsl1 hgcl1 hgxs1 hsz12 hksz12
    repeat (first | refine unr_step ?_ | refine wp_seq_region ?_ | refine wp_region ?_ | refine r_move (by conv => (lhs; whnf)) ?_ | refine r_nil ?_ | refine q_then ?_ | refine wp_exit ?_ | refine q_then_exit ?_ | refine q_block_hit rfl ?_ | refine r_lss rfl rfl ?_ | refine r_addI rfl rfl (by omega) (by omega) ?_ | refine wp_if_no rfl (by omega) ?_)
    exact ⟨by (repeat (first | refine agree_upd rfl ?_ | exact agree_over | refine agree_sub rfl ?_ | exact agree_refl | refine agree_base rfl ?_ | refine agree_base' rfl ?_)), n0, n1, k, hgs, hgc, hgo, hn0, hn1⟩
  rintro u w2 ⟨n0, n1, k, hgs, hgc, hgo, hn0, hn1⟩
  refine wp_fresh [(0, .slice (some ⟨gl, 0, none⟩) 1 1), (1, .slice (some ⟨gb, 0, none⟩) 1 capb), (5, .pointer (some ⟨gs, 0, none⟩)), (6, .int .i64 4), (7, .int .i64 0), (9, .slice (some ⟨go, 0, none⟩) 4 4), (10, .bool (tst ((-1 : Rat).num.sign < 0))), (30, .slice (some ⟨gl, 0, none⟩) 1 1), (31, .int .i64 1), (32, .int .i64 0)] ⟨rfl, rfl, rfl, rfl, rfl, rfl, rfl, rfl, rfl, rfl, trivial⟩ ?_
  intro u3
  have hS2 := hS.to k
  have hB := hB0.to k
  have hb3 := hbb.to k
  repeat (first | refine wp_seq_region ?_)
  refine wp_drawn 9 (by kernel_rfl) (by kernel_rfl) ?_
  apply ob_step
  · intro x w1 k1 hd
    refine r_move (by conv => (lhs; whnf)) ?_
    refine r_nil ?_
    exact ob_eq
  apply ob_step
  · intro x w1 k1 hd
    refine r_move (by conv => (lhs; whnf)) ?_
    refine r_nil ?_
    exact ob_eq
  apply ob_step
  · intro x w1 k1 hd
    refine r_nilCheck rfl ?_
    refine r_nil ?_
    exact ob_eq
  apply ob_step
  · intro x w1 k1 hd
    refine r_field rfl ?_
    refine r_nil ?_
    exact ob_eq
  apply ob_step
  · intro x w1 k1 hd
    refine r_load_blk rfl (hgs.to k1) rfl ?_
    refine r_nil ?_
    exact ob_eq
  apply ob_step
  · intro x w1 k1 hd
    refine r_move (by conv => (lhs; whnf)) ?_
    refine r_nil ?_
    exact ob_eq
  apply ob_step
  · intro x w1 k1 hd
    refine r_addI rfl rfl (by omega) (by omega) ?_
    refine r_nil ?_
    exact ob_eq
  refine ob_step (e := ratE S ((1 : Int) : Rat)) ?_ ?_
  · intro x w1 k1 hd
    refine r_call (of_c (z := 1) (hS2.to k1) (by decide) (by decide)) rfl ?_
    rintro v2 w2 ⟨k2, h2⟩
    exact r_nil (ob_of k2 h2)
  apply ob_step
  · intro x w1 k1 hd
    refine r_index_sl rfl rfl (by omega) (by omega) ?_
    refine r_nil ?_
    exact ob_eq
  refine ob_nil (ob_end ?_)
  intro x w3 k3 hall
  obtain ⟨t3, hv3, h3, o1, o2, o3⟩ := RatV.tri (show RatV S w3 (x 7) ((1 : Int) : Rat) from hall.2.1)
  replace hgs := hgs.to k3
  replace hgc := hgc.to k3
  replace hgo := hgo.to k3
  replace hb3 := hb3.to k3
  replace hn0 := hn0.to k3
  replace hn1 := hn1.to k3
  replace hB := hB.to k3
  replace k := k.trans k3
  refine r_store_tri (u := t3) 2 rfl (by decide) hv3 hgo (by simp) o1 o2 o3 ?_
  intro w4 k4 hgo4
  replace k := k.past k4 hgole
  replace hn0 := hn0.wrT k4 hgo (by decide)
  replace hn1 := hn1.wrT k4 hgo (by decide)
  replace hB := hB.wrT k4 hgo (by decide)
  replace h3 := h3.wrT k4 hgo (by decide)
  have hgb : w1.heap.size > gb := hbb.lt
  replace hgs := hgs.wr k4 (by omega)
  replace hgc := hgc.wr k4 (by omega)
  replace hb3 := hb3.wr k4 (by omega)
  replace hgo : Blk w4 go 34 (flat [n0, n1, t3, zTri]) := hgo4
  clear k3 k4 hall hgo4
  have oB := hB.ones
  repeat (first | refine r_load_tri 0 rfl (by decide) hb3 rfl ?_ | refine wp_seq_region ?_ | refine wp_seq_seq ?_ | refine wp_region ?_ | refine r_move (by conv => (lhs; whnf)) ?_ | refine r_nil ?_ | refine r_subI rfl rfl (by omega) (by omega) ?_ | refine r_index_sl rfl rfl (by omega) (by omega) ?_)
  refine r_store_tri (u := tb) 3 rfl (by decide) rfl hgo (by simp) oB.1 oB.2.1 oB.2.2 ?_
  intro w5 k5 hgo5
  replace k := k.past k5 hgole
  replace hn0 := hn0.wrT k5 hgo (by decide)
  replace hn1 := hn1.wrT k5 hgo (by decide)
  replace hB := hB.wrT k5 hgo (by decide)
  replace h3 := h3.wrT k5 hgo (by decide)
  replace hgs := hgs.wr k5 (by omega)
  replace hgc := hgc.wr k5 (by omega)
  replace hb3 := hb3.wr k5 (by omega)
  replace hgo : Blk w5 go 34 (flat [n0, n1, t3, tb]) := hgo5
  clear k5 hgo5
  repeat (first | refine wp_seq_region ?_ | refine wp_region ?_ | refine r_move (by conv => (lhs; whnf)) ?_ | refine r_nil ?_ | refine q_then ?_)
  first | refine wp_cond_yes rfl (by decide) ?_ | refine wp_if_yes rfl (by decide) ?_ | skip
  repeat (first | refine r_load_tri 0 rfl (by decide) hb3 rfl ?_ | refine wp_region ?_ | refine r_move (by conv => (lhs; whnf)) ?_ | refine r_subI rfl rfl (by omega) (by omega) ?_ | refine r_index_sl rfl rfl (by omega) (by omega) ?_)
  refine r_call (rneg_c (v := tb.val) hB) rfl ?_
  rintro v6 w6 ⟨k6, hn3⟩
  obtain ⟨n3, rfl, hn3, o31, o32, o33⟩ := RatV.tri hn3
  replace hgs := hgs.to k6
  replace hgc := hgc.to k6
  replace hgo := hgo.to k6
  replace hn0 := hn0.to k6
  replace hn1 := hn1.to k6
  replace h3 := h3.to k6
  replace k := k.trans k6
  repeat (first | refine r_index_sl rfl rfl (by omega) (by omega) ?_)
  refine r_store_tri (u := n3) 3 rfl (by decide) rfl hgo (by simp) o31 o32 o33 ?_
  intro w7 k7 hgo7
  replace k := k.past k7 hgole
  replace hn0 := hn0.wrT k7 hgo (by decide)
  replace hn1 := hn1.wrT k7 hgo (by decide)
  replace h3 := h3.wrT k7 hgo (by decide)
  replace hn3 := hn3.wrT k7 hgo (by decide)
  replace hgs := hgs.wr k7 (by omega)
  replace hgc := hgc.wr k7 (by omega)
  replace hgo : Blk w7 go 34 (flat [n0, n1, t3, n3]) := hgo7
  clear k6 k7 hgo7 hb3 hB
  repeat (first | refine r_load_blk rfl hgs rfl ?_ | refine wp_seq_region ?_ | refine wp_region ?_ | refine r_move (by conv => (lhs; whnf)) ?_ | refine r_nil ?_ | refine r_field rfl ?_ | refine r_nilCheck rfl ?_)
  refine r_lit1 (v := .slice (some ⟨go, 0, none⟩) 4 4) rfl rfl ?_
  intro w8 g8 k8 hg8 hgs8
  skip
  have hb8 := hg8.lt
  refine r_append1 (base := g8) (m := 0) (xs := []) (cs := [.slice (some ⟨go, 0, none⟩) 4 4]) rfl own_nil rfl hg8 (show 0 < 1 by decide) rfl (fun v hv => by simp only [List.mem_singleton] at hv; subst hv; rfl) (by decide) (by decide) (by omega) ?_
  intro rows w9 hrows k9
  have k9' : Ext w8 w9 := k9.mono fun i _ e => by cases e
  have hro : rows.oneCell' = true := by
    rcases hrows.2 with ⟨hv, _⟩ | ⟨g, cap, cur, hv, _⟩ <;> rw [hv] <;> rfl
  clear hrows k9
  replace hgs := hgs.to k8
  replace hgc := hgc.to k8
  replace hgo := hgo.to k8
  replace hn0 := hn0.to k8
  replace hn1 := hn1.to k8
  replace h3 := h3.to k8
  replace hn3 := hn3.to k8
  replace hgs := hgs.to k9'
  replace hgc := hgc.to k9'
  replace hgo := hgo.to k9'
  replace hn0 := hn0.to k9'
  replace hn1 := hn1.to k9'
  replace h3 := h3.to k9'
  replace hn3 := hn3.to k9'
  replace k := (k.trans k8).trans k9'
  repeat (first | refine r_field rfl ?_ | refine r_nilCheck rfl ?_)
  refine r_store (i := 0) (u := rows) rfl rfl hgs (show 0 < 5 by decide) hro ?_
  intro w10 k10 hgs10
  replace k := k.past k10 hgsle
  replace hn0 := hn0.wrT k10 hgs (by decide)
  replace hn1 := hn1.wrT k10 hgs (by decide)
  replace h3 := h3.wrT k10 hgs (by decide)
  replace hn3 := hn3.wrT k10 hgs (by decide)
  replace hgc := hgc.wr k10 (by omega)
  replace hgo := hgo.wr k10 (by omega)
  replace hgs : Blk w10 gs 169 [rows, .slice (some ⟨gc, 0, none⟩) 4 4, .slice none 0 0, .int .i64 2, .slice none 0 0] := hgs10
  clear k8 k9' k10 hgs10 hg8 hgs8 hb8
  repeat (first | refine wp_seq_region ?_ | refine r_nil ?_)
  refine wp_drawn 15 (by kernel_rfl) (by kernel_rfl) ?_
  apply ob_step
  · intro x w1 k1 hd
    refine r_move (by conv => (lhs; whnf)) ?_
    refine r_nil ?_
    exact ob_eq
  apply ob_step
  · intro x w1 k1 hd
    refine r_move (by conv => (lhs; whnf)) ?_
    refine r_nil ?_
    exact ob_eq
  apply ob_step
  · intro x w1 k1 hd
    refine r_nilCheck rfl ?_
    refine r_nil ?_
    exact ob_eq
  apply ob_step
  · intro x w1 k1 hd
    refine r_field rfl ?_
    refine r_nil ?_
    exact ob_eq
  apply ob_step
  · intro x w1 k1 hd
    refine r_load_blk rfl (hgs.to k1) rfl ?_
    refine r_nil ?_
    exact ob_eq
  apply ob_step
  · intro x w1 k1 hd
    refine r_move (by conv => (lhs; whnf)) ?_
    refine r_nil ?_
    exact ob_eq
  apply ob_step
  · intro x w1 k1 hd
    refine r_nilCheck rfl ?_
    refine r_nil ?_
    exact ob_eq
  apply ob_step
  · intro x w1 k1 hd
    refine r_field rfl ?_
    refine r_nil ?_
    exact ob_eq
  apply ob_step
  · intro x w1 k1 hd
    refine r_load_blk rfl (hgs.to k1) rfl ?_
    refine r_nil ?_
    exact ob_eq
  apply ob_step
  · intro x w1 k1 hd
    refine r_move (by conv => (lhs; whnf)) ?_
    refine r_nil ?_
    exact ob_eq
  apply ob_step
  · intro x w1 k1 hd
    refine r_addI rfl rfl (by omega) (by omega) ?_
    refine r_nil ?_
    exact ob_eq
  refine ob_step (e := Ent.of (fun v w => ∃ g, v = .slice (some ⟨g, 0, none⟩) 1 1 ∧ Blk w g 3 [.int .i64 2]) (fun v w w' ⟨g, h, hb⟩ k => ⟨g, h, hb.to k⟩)) ?_ ?_
  · intro x w1 k1 hd
    refine r_lit1 (v := .int .i64 2) rfl rfl ?_
    intro w2 g2 k2 hg2 _
    exact r_nil (ob_of k2 ⟨g2, rfl, hg2⟩)
  refine ob_step (e := Ent.of (fun v w => v.oneCell' = true) (fun v w w' h k => h)) ?_ ?_
  · intro x w1 k1 hd
    obtain ⟨g2, hx2, hg2⟩ : ∃ g, x 11 = .slice (some ⟨g, 0, none⟩) 1 1 ∧ Blk w1 g 3 [.int .i64 2] := hd.1
    have hl2 := hg2.lt
    refine r_append1 (base := g2) (m := 0) (xs := []) (cs := [.int .i64 2]) rfl own_nil hx2 hg2 (by decide) rfl (fun v hv => by simp only [List.mem_singleton] at hv; subst hv; rfl) (by decide) (by decide) (by omega) ?_
    intro v3 w3 h3 k3
    refine r_nil (ob_of (k3.mono fun i _ e => by cases e) ?_)
    rcases h3.2 with ⟨hv, _⟩ | ⟨g, cap, cur, hv, _⟩ <;> rw [hv] <;> rfl
  apply ob_step
  · intro x w1 k1 hd
    refine r_nilCheck rfl ?_
    refine r_nil ?_
    exact ob_eq
  apply ob_step
  · intro x w1 k1 hd
    refine r_field rfl ?_
    refine r_nil ?_
    exact ob_eq
  refine ob_nil (ob_end ?_)
  intro x w11 k11 hall
  have hbo : (x 12).oneCell' = true := hall.2.2.1
  replace hgs := hgs.to k11
  replace hgc := hgc.to k11
  replace hgo := hgo.to k11
  replace hn0 := hn0.to k11
  replace hn1 := hn1.to k11
  replace h3 := h3.to k11
  replace hn3 := hn3.to k11
  replace k := k.trans k11
  refine r_store (i := 2) (u := x 12) rfl rfl hgs (show 2 < 5 by decide) hbo ?_
  intro w12 k12 hgs12
  replace k := k.past k12 hgsle
  replace hn0 := hn0.wrT k12 hgs (by decide)
  replace hn1 := hn1.wrT k12 hgs (by decide)
  replace h3 := h3.wrT k12 hgs (by decide)
  replace hn3 := hn3.wrT k12 hgs (by decide)
  replace hgc := hgc.wr k12 (by omega)
  replace hgo := hgo.wr k12 (by omega)
  replace hgs : Blk w12 gs 169 [rows, .slice (some ⟨gc, 0, none⟩) 4 4, x 12, .int .i64 2, .slice none 0 0] := hgs12
  clear k11 k12 hgs12 hall
  generalize x 12 = basic at *
  repeat (first | refine r_load_blk rfl hgs rfl ?_ | refine wp_seq_region ?_ | refine wp_region ?_ | refine r_move (by conv => (lhs; whnf)) ?_ | refine r_nil ?_ | refine r_field rfl ?_ | refine r_nilCheck rfl ?_)
  refine r_lit1 (v := .bool (tst ((-1 : Rat).num.sign < 0))) rfl rfl ?_
  intro w13 g13 k13 hg13 hgs13
  skip
  refine r_append1 (base := w1.heap.size) (m := 0) (xs := []) (cs := [.bool (tst ((-1 : Rat).num.sign < 0))]) rfl own_nil rfl hg13 (by decide) rfl (fun v hv => by simp only [List.mem_singleton] at hv; subst hv; rfl) (by decide) (by decide) (by have := k.size; have := k13.size; omega) ?_
  intro sg w14 hsg k14
  have k14' : Ext w13 w14 := k14.mono fun i _ e => by cases e
  obtain ⟨gg, capg, cs, rfl, hgg, hggs⟩ : ∃ gg capg cs, sg = .slice (some ⟨gg, 0, none⟩) 1 capg ∧ Blk w14 gg 4 (.bool true :: cs) ∧ w1.heap.size ≤ gg := by
    rcases hsg.2 with ⟨hv, h0⟩ | ⟨g, cap, cur, hv, hb, hg, hn, hm, hc, htk⟩
    · omega
    · have hcur : cur.toList = .bool true :: cur.toList.drop 1 := by
        have e1 : cur.toList.take 1 = [.bool true] := by
          have : cur.toList.take (1 * 1) = [] ++ [Value.bool (tst ((-1 : Rat).num.sign < 0))] := htk
          rw [tst_true (by decide)] at this
          simpa using this
        rw [← List.take_append_drop 1 cur.toList, e1]
        rfl
      refine ⟨g, cap, cur.toList.drop 1, hv, ?_, hb⟩
      unfold Blk
      rw [← hcur]
      simpa using hg
  clear hsg k14
  replace hgs := hgs.to k13
  replace hgc := hgc.to k13
  replace hgo := hgo.to k13
  replace hn0 := hn0.to k13
  replace hn1 := hn1.to k13
  replace h3 := h3.to k13
  replace hn3 := hn3.to k13
  replace hgs := hgs.to k14'
  replace hgc := hgc.to k14'
  replace hgo := hgo.to k14'
  replace hn0 := hn0.to k14'
  replace hn1 := hn1.to k14'
  replace h3 := h3.to k14'
  replace hn3 := hn3.to k14'
  have hk14 : w1.heap.size ≤ w14.heap.size := by have := k.size; have := k13.size; have := k14'.size; omega
  replace k := (k.trans k13).trans k14'
  have hne4 : gs ≠ gg := hgs.ne hgg (by decide)
  repeat (first | refine r_field rfl ?_ | refine r_nilCheck rfl ?_)
  refine r_store (i := 4) (u := .slice (some ⟨gg, 0, none⟩) 1 capg) rfl rfl hgs (show 4 < 5 by decide) rfl ?_
  intro w15 k15 hgs15
  replace k := k.past k15 hgsle
  replace hn0 := hn0.wrT k15 hgs (by decide)
  replace hn1 := hn1.wrT k15 hgs (by decide)
  replace h3 := h3.wrT k15 hgs (by decide)
  replace hn3 := hn3.wrT k15 hgs (by decide)
  replace hgc := hgc.wr k15 (by omega)
  replace hgo := hgo.wr k15 (by omega)
  replace hgg := hgg.wr k15 (by omega)
  replace hgs : Blk w15 gs 169 [rows, .slice (some ⟨gc, 0, none⟩) 4 4, basic, .int .i64 2, .slice (some ⟨gg, 0, none⟩) 1 capg] := hgs15
  clear k13 k14' k15 hgs15 hg13 hgs13
  have hS15 := hS.to k
  repeat (first | refine wp_seq_region ?_ | refine r_nil ?_)
  refine wp_drawn 25 (by kernel_rfl) (by kernel_rfl) ?_
  apply ob_step
  · intro x w1 k1 hd
    refine r_move (by conv => (lhs; whnf)) ?_
    refine r_nil ?_
    exact ob_eq
  apply ob_step
  · intro x w1 k1 hd
    refine r_nilCheck rfl ?_
    refine r_nil ?_
    exact ob_eq
  apply ob_step
  · intro x w1 k1 hd
    refine r_field rfl ?_
    refine r_nil ?_
    exact ob_eq
  apply ob_step
  · intro x w1 k1 hd
    refine r_load_blk rfl (hgs.to k1) rfl ?_
    refine r_nil ?_
    exact ob_eq
  apply ob_step
  · intro x w1 k1 hd
    refine r_move (by conv => (lhs; whnf)) ?_
    refine r_nil ?_
    exact ob_eq
  apply ob_step
  · intro x w1 k1 hd
    refine r_nilCheck rfl ?_
    refine r_nil ?_
    exact ob_eq
  apply ob_step
  · intro x w1 k1 hd
    refine r_field rfl ?_
    refine r_nil ?_
    exact ob_eq
  apply ob_step
  · intro x w1 k1 hd
    refine r_load_blk rfl (hgs.to k1) rfl ?_
    refine r_nil ?_
    exact ob_eq
  apply ob_step
  · intro x w1 k1 hd
    refine r_move (by conv => (lhs; whnf)) ?_
    refine r_nil ?_
    exact ob_eq
  apply ob_step
  · intro x w1 k1 hd
    refine r_addI rfl rfl (by omega) (by omega) ?_
    refine r_nil ?_
    exact ob_eq
  apply ob_step
  · intro x w1 k1 hd
    refine r_move (by conv => (lhs; whnf)) ?_
    refine r_nil ?_
    exact ob_eq
  apply ob_step
  · intro x w1 k1 hd
    refine r_nilCheck rfl ?_
    refine r_nil ?_
    exact ob_eq
  apply ob_step
  · intro x w1 k1 hd
    refine r_field rfl ?_
    refine r_nil ?_
    exact ob_eq
  apply ob_step
  · intro x w1 k1 hd
    refine r_load_blk rfl (hgs.to k1) rfl ?_
    refine r_nil ?_
    exact ob_eq
  apply ob_step
  · intro x w1 k1 hd
    refine r_move (by conv => (lhs; whnf)) ?_
    refine r_nil ?_
    exact ob_eq
  apply ob_step
  · intro x w1 k1 hd
    refine r_nilCheck rfl ?_
    refine r_nil ?_
    exact ob_eq
  apply ob_step
  · intro x w1 k1 hd
    refine r_field rfl ?_
    refine r_nil ?_
    exact ob_eq
  apply ob_step
  · intro x w1 k1 hd
    refine r_load_blk rfl (hgs.to k1) rfl ?_
    refine r_nil ?_
    exact ob_eq
  apply ob_step
  · intro x w1 k1 hd
    refine r_move (by conv => (lhs; whnf)) ?_
    refine r_nil ?_
    exact ob_eq
  apply ob_step
  · intro x w1 k1 hd
    refine r_addI rfl rfl (by omega) (by omega) ?_
    refine r_nil ?_
    exact ob_eq
  apply ob_step
  · intro x w1 k1 hd
    refine r_index_sl rfl rfl (by omega) (by omega) ?_
    refine r_nil ?_
    exact ob_eq
  apply ob_step
  · intro x w1 k1 hd
    refine r_load_tri 2 rfl (by decide) (hgc.to k1) rfl ?_
    refine r_nil ?_
    exact ob_eq
  refine ob_step (e := ratE S ((1 : Int) : Rat)) ?_ ?_
  · intro x w1 k1 hd
    refine r_call (of_c (z := 1) (hS15.to k1) (by decide) (by decide)) rfl ?_
    rintro v2 w2 ⟨k2, h2⟩
    exact r_nil (ob_of k2 h2)
  refine ob_step (e := ratE S (0 + ((1 : Int) : Rat))) ?_ ?_
  · intro x w1 k1 hd
    refine r_call (rplus_c (va := zTri.val) (hS15.to k1) zTri_rat hd.1 rl_zero (rl_one (by decide))) rfl ?_
    rintro v2 w2 ⟨k2, h2⟩
    exact r_nil (ob_of k2 h2)
  apply ob_step
  · intro x w1 k1 hd
    refine r_index_sl rfl rfl (by omega) (by omega) ?_
    refine r_nil ?_
    exact ob_eq
  refine ob_nil (ob_end ?_)
  intro x w16 k16 hall
  obtain ⟨t16, hv16, h16, p1, p2, p3⟩ := RatV.tri (show RatV S w16 (x 23) (0 + ((1 : Int) : Rat)) from hall.2.1)
  replace hgs := hgs.to k16
  replace hgc := hgc.to k16
  replace hgo := hgo.to k16
  replace hgg := hgg.to k16
  replace hn0 := hn0.to k16
  replace hn1 := hn1.to k16
  replace h3 := h3.to k16
  replace hn3 := hn3.to k16
  replace k := k.trans k16
  refine r_store_tri (u := t16) 2 rfl (by decide) hv16 hgc (by simp) p1 p2 p3 ?_
  intro w17 k17 hgc17
  replace k := k.past k17 hgcle
  have hne5 : gc ≠ gg := hgc.ne hgg (by decide)
  replace hn0 := hn0.wrT k17 hgc (by decide)
  replace hn1 := hn1.wrT k17 hgc (by decide)
  replace h3 := h3.wrT k17 hgc (by decide)
  replace hn3 := hn3.wrT k17 hgc (by decide)
  replace h16 := h16.wrT k17 hgc (by decide)
  replace hgs := hgs.wr k17 (by omega)
  replace hgo := hgo.wr k17 (by omega)
  replace hgg := hgg.wr k17 (by omega)
  replace hgc : Blk w17 gc 34 (flat [zTri, zTri, t16, zTri]) := hgc17
  clear k16 k17 hgc17 hall
  have hS17 := hS.to k
  repeat (first | refine r_nil ?_ | refine q_then ?_)
  refine wp_drawn 6 (by kernel_rfl) (by kernel_rfl) ?_
  apply ob_step
  · intro x w1 k1 hd
    refine r_move (by conv => (lhs; whnf)) ?_
    refine r_nil ?_
    exact ob_eq
  apply ob_step
  · intro x w1 k1 hd
    refine r_nilCheck rfl ?_
    refine r_nil ?_
    exact ob_eq
  apply ob_step
  · intro x w1 k1 hd
    refine r_field rfl ?_
    refine r_nil ?_
    exact ob_eq
  apply ob_step
  · intro x w1 k1 hd
    refine r_load_blk rfl (hgs.to k1) rfl ?_
    refine r_nil ?_
    exact ob_eq
  refine ob_step (e := ratE S ((1 : Int) : Rat)) ?_ ?_
  · intro x w1 k1 hd
    refine r_call (of_c (z := 1) (hS17.to k1) (by decide) (by decide)) rfl ?_
    rintro v2 w2 ⟨k2, h2⟩
    exact r_nil (ob_of k2 h2)
  apply ob_step
  · intro x w1 k1 hd
    refine r_move (by conv => (lhs; whnf)) ?_
    refine r_nil ?_
    exact ob_eq
  refine ob_nil (ob_end ?_)
  intro x w18 k18 hall
  have h18 : RatV S w18 (x 4) ((1 : Int) : Rat) := hall.2.1
  replace hgs := hgs.to k18
  replace hgc := hgc.to k18
  replace hgo := hgo.to k18
  replace hgg := hgg.to k18
  replace hn0 := hn0.to k18
  replace hn1 := hn1.to k18
  replace h3 := h3.to k18
  replace hn3 := hn3.to k18
  replace h16 := h16.to k18
  replace k := k.trans k18
  refine r_call (take_c (nd := 4) (nf := 4) (td := [zTri, zTri, t16, zTri]) (tf := [n0, n1, t3, n3]) (ld := [0, 0, 0 + ((1 : Int) : Rat), 0]) (lf := [-1, -1, ((1 : Int) : Rat), - (-1)]) (hS.to k) h18 (rl_one (by decide)) hgc ⟨zTri_rat, zTri_rat, h16, zTri_rat, trivial⟩ small_d hgo (show Rats S w18 [n0, n1, t3, n3] [-1, -1, ((1 : Int) : Rat), - (-1)] from ⟨hn0, hn1, h3, hn3, trivial⟩) (show 4 ≤ 4 by decide) small_f (by omega) rfl (show 4 ≤ 4 by decide) (show 4 ≤ 1000000000 by decide)) rfl ?_
  rintro v19 w19 ⟨k19, tc, hgc19, hr19⟩
  replace k := k.past k19 hgcle
  replace hgs := hgs.wr k19 (by omega)
  replace hgg := hgg.wr k19 (by omega)
  repeat (first | refine unr_step ?_ | refine wp_seq_region ?_ | refine wp_region ?_ | refine r_move (by conv => (lhs; whnf)) ?_ | refine r_assign (by conv => (lhs; whnf)) ?_ | refine r_nil ?_ | refine q_then ?_ | refine wp_ret ?_ | refine wp_exit ?_ | refine r_lss rfl rfl ?_ | refine r_addI rfl rfl (by omega) (by omega) ?_ | refine wp_if_no rfl (by omega) ?_)
  refine end_tmp rfl (by conv => (lhs; whnf)) ⟨k, gs, gc, gg, capg, rows, basic, tc, rfl, hgs, hgc19, ?_, cs, hgg⟩
  rw [take_eq] at hr19
  exact hr19
end Go.Proofs.YtpmnjjmngogkkaaGreatDoor
