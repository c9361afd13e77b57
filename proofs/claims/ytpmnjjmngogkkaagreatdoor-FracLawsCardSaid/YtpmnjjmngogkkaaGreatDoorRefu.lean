/- The refusal of x + y = -1. -/
import Derived.Test.YtpmnjjmngogkkaaGreatDoorSim
import Derived.Test.YtpmnjjmngogkkaaGreatDoorEq
set_option linter.unusedVariables false
set_option linter.unusedSimpArgs false
namespace Go.Proofs.YtpmnjjmngogkkaaGreatDoor
open Go Go.RowKit

theorem short_one : Short 1 := by unfold Short; exact ⟨by decide +kernel, by decide +kernel⟩
theorem short_neg : Short (-1) := by unfold Short; exact ⟨by decide +kernel, by decide +kernel⟩
/-- s[:h] of a slice. -/
theorem r_slice_h {P : Program} {n : Nat} {Q : Post} {ρ : Fr} {w : World} {all rest : List Oper} {d : Tmp} {ty : TypeId} {pos : String} {aft : Array Edge} {t T : TypeId} [st : SlT P t T] {s b : Nat} {z : Value} {agg : Bool} [ti : TyI P T s b z agg]
    {x hi : Operand} {g m cap k : Nat} {i : Int} (hx : ev ρ x = .slice (some ⟨g, 0, none⟩) m cap) (hh : ev ρ hi = .int .i64 i) (hik : i = (k : Int)) (hk : k ≤ cap) (hc : 0 < cap)
    (h : WpR P n all Q rest (upd ρ d (.slice (some ⟨g, 0, none⟩) k cap)) w) : WpR P n all Q (⟨some d, .slice t x none (some hi) none, ty, pos, aft, none⟩ :: rest) ρ w := by
  refine r_val rfl rfl ?_ h
  subst hik
  simp [execOp, hx, hh, Instr.sliceAt, Instr.slice, run_underlying st.und, Instr.sliceBounds, Instr.sliceBound, asIntOf, hk, ti.runSize w, Addr.add, show ¬ cap = 0 by omega]
theorem fill_three {pl : Nat → Option (Nat × Nat)} {zs : List Value} {i off : Nat} {u : Tri} {r : List (Nat × Value)} {o : Option (Array Value)} (hp : pl i = some (off, 3)) (ho : off + 2 < zs.length)
    (h : Instr.fill pl (((zs.set off u.1).set (off + 1) u.2.1).set (off + 2) u.2.2).toArray r = o) : Instr.fill pl zs.toArray ((i, u.val) :: r) = o := by
  have hc : u.val.cells = #[u.1, u.2.1, u.2.2] := rfl
  unfold Instr.fill
  simp only [hp, hc]
  have e : (#[u.1, u.2.1, u.2.2].size ≠ 3 || decide (off + #[u.1, u.2.1, u.2.2].size > zs.toArray.size)) = false := by simp; omega
  rw [if_neg (by rw [e]; simp)]
  subst h
  simp [Array.zipIdx]
theorem len3 {l : List Value} {a b c : Value} (h : l.length = 3) : ((l.set 0 a).set 1 b).set 2 c = [a, b, c] := by
  match l, h with
  | [_, _, _], _ => rfl
theorem len6 {l : List Value} {a b c d e f : Value} (h : l.length = 6) : (((((l.set 0 a).set 1 b).set 2 c).set 3 d).set 4 e).set 5 f = [a, b, c, d, e, f] := by
  match l, h with
  | [_, _, _, _, _, _], _ => rfl
section
variable {P : Program} {n : Nat} {Q : Post} {ρ : Fr} {w : World} {all rest : List Oper} {d : Tmp} {ty : TypeId} {pos : String} {aft : Array Edge} {t T : TypeId}
theorem r_lit_tri1 [st : SlT P t T] {b : Nat} {z : Value} {agg : Bool} [ti : TyI P T 3 b z agg] {x : Operand} {u : Tri} (hx : ev ρ x = u.val) (h1 : u.1.oneCell' = true) (h2 : u.2.1.oneCell' = true) (h3 : u.2.2.oneCell' = true)
    (h : ∀ w' g, Ext w w' → Blk w' g T (flat [u]) → w.heap.size ≤ g → WpR P n all Q rest (upd ρ d (.slice (some ⟨g, 0, none⟩) 1 1)) w') :
    WpR P n all Q (⟨some d, .buildSlice t 1 #[(0, x)], ty, pos, aft, none⟩ :: rest) ρ w := by
  refine r_valw (w' := w.alloc (.cells (flat [u]).toArray T)) rfl rfl ?_ (h _ w.heap.size (ext_alloc _ _) (Blk.new _ _ _) (Nat.le_refl _))
  have hf : Instr.fill (fun i => some (i * 3, 3)) ((Array.range (1 * 3)).map (z.cells[· % z.cells.size]!)) [(0, u.val)] = some (flat [u]).toArray := by
    have e : (Array.range (1 * 3)).map (z.cells[· % z.cells.size]!) = ((Array.range (1 * 3)).map (z.cells[· % z.cells.size]!)).toList.toArray := (Array.toArray_toList ..).symm
    rw [e]
    refine fill_three rfl (by simp) ?_
    rw [len3 (by simp)]
    rfl
  simp [execOp, hx, Instr.buildSlice, run_underlying st.und, ti.runSize w, ti.runZero w, newRow] at hf ⊢
  simp [hf]
theorem r_lit_tri2 [st : SlT P t T] {b : Nat} {z : Value} {agg : Bool} [ti : TyI P T 3 b z agg] {x y : Operand} {u v : Tri} (hx : ev ρ x = u.val) (hy : ev ρ y = v.val)
    (h : ∀ w' g, Ext w w' → Blk w' g T (flat [u, v]) → w.heap.size ≤ g → WpR P n all Q rest (upd ρ d (.slice (some ⟨g, 0, none⟩) 2 2)) w') :
    WpR P n all Q (⟨some d, .buildSlice t 2 #[(0, x), (1, y)], ty, pos, aft, none⟩ :: rest) ρ w := by
  refine r_valw (w' := w.alloc (.cells (flat [u, v]).toArray T)) rfl rfl ?_ (h _ w.heap.size (ext_alloc _ _) (Blk.new _ _ _) (Nat.le_refl _))
  have hf : Instr.fill (fun i => some (i * 3, 3)) ((Array.range (2 * 3)).map (z.cells[· % z.cells.size]!)) [(0, u.val), (1, v.val)] = some (flat [u, v]).toArray := by
    have e : (Array.range (2 * 3)).map (z.cells[· % z.cells.size]!) = ((Array.range (2 * 3)).map (z.cells[· % z.cells.size]!)).toList.toArray := (Array.toArray_toList ..).symm
    rw [e]
    refine fill_three rfl (by simp) ?_
    refine fill_three rfl (by simp) ?_
    rw [len6 (by simp)]
    rfl
  simp [execOp, hx, hy, Instr.buildSlice, run_underlying st.und, ti.runSize w, ti.runZero w, newRow] at hf ⊢
  simp [hf]
end
theorem run_c {S : Nat → Prop} {w : World} {gs gc : Nat} {rows basic sg : Value} {tc : List Tri} (hgs : Blk w gs 169 [rows, .slice (some ⟨gc, 0, none⟩) 4 4, basic, .int .i64 2, sg])
    (hgc : Blk w gc 34 (flat tc)) (hr : Rats S w tc [1, 1, 0, -1]) :
    Gives Tryz.prog 135 [.pointer (some ⟨gs, 0, none⟩)] w fun v' w' => Ext w w' := by
  have hlen : tc.length = 4 := hr.length
  have hr3 : Rats S w (tc.take 3) [1, 1, 0] := by
    match tc, hr with
    | [a, b, c, d], ⟨h1, h2, h3, h4, _⟩ => exact ⟨h1, h2, h3, trivial⟩
  refine gives_of Tryz.func135 rfl rfl rfl ?_
  repeat (first | refine r_load_blk rfl hgs rfl ?_ | refine wp_seq_region ?_ | refine wp_region ?_ | refine r_move (by conv => (lhs; whnf)) ?_ | refine r_assign (by conv => (lhs; whnf)) ?_ | refine r_nil ?_ | refine q_then ?_ | refine r_len_sl rfl ?_ | refine r_subI rfl rfl (by omega) (by omega) ?_ | refine r_field rfl ?_ | refine r_nilCheck rfl ?_)
  try refine wp_seq_block ?_
  refine unr_for 2 ?_
  repeat (first | refine unr_step ?_ | refine r_load_blk rfl hgs rfl ?_ | refine wp_seq_region ?_ | refine wp_region ?_ | refine r_move (by conv => (lhs; whnf)) ?_ | refine wp_block_seq ?_ | refine r_field rfl ?_ | refine r_nilCheck rfl ?_)
  refine r_slice_h (k := 3) rfl rfl rfl (by decide) (by decide) ?_
  refine r_call (index_c (first := []) (caps := []) (l := [1, 1, 0]) (fun q => q.num.sign < 0) hgc hr3 (by omega) (by decide) (fun w' v q k h _ => neg_test_c h)) rfl ?_
  rintro v2 w2 ⟨⟨i, rfl, hi⟩, k2⟩
  have hi1 : i = -1 := by
    rcases hi with ⟨h, _⟩ | ⟨k, q, _, hq, hp, _⟩
    · exact h
    · have := List.mem_of_getElem? hq
      simp only [List.mem_cons, List.not_mem_nil, or_false] at this
      rcases this with rfl | rfl | rfl <;> exact absurd hp (by decide)
  subst hi1
  repeat (first | refine wp_seq_region ?_ | refine wp_seq_seq ?_ | refine wp_region ?_ | refine r_move (by conv => (lhs; whnf)) ?_ | refine r_assign (by conv => (lhs; whnf)) ?_ | refine r_nil ?_ | refine q_then ?_ | refine wp_ret ?_ | refine q_then_ret ?_ | refine q_block_ret ?_ | refine r_lss rfl rfl ?_ | refine wp_cond_yes rfl (by omega) ?_)
  exact ⟨[], rfl, k2⟩

theorem refuse_c {S : Nat → Prop} {w : World} {gl gr gb capb : Nat} {t1 t2 tb : Tri} (hS : Up S w) (ht : Tab w) (hl : Blk w gl 95 [.slice (some ⟨gr, 0, none⟩) 2 2])
    (hb : Blk w gr 34 (flat [t1, t2])) (h1 : RatV S w t1.val 1) (h2 : RatV S w t2.val 1) (hbb : Blk w gb 34 (flat [tb])) (hB : RatV S w tb.val (-1)) :
    Gives Tryz.prog 77 [.slice (some ⟨gl, 0, none⟩) 1 1, .slice (some ⟨gb, 0, none⟩) 1 capb] w fun v' w' => Ext w w' ∧ ∃ gv capv tv cs, v' = .tuple #[.slice (some ⟨gv, 0, none⟩) 1 capv, .bool true] ∧ Blk w' gv 34 (tv.1 :: tv.2.1 :: tv.2.2 :: cs) ∧ RatV S w' (Tri.val tv) 1 := by
  refine gives_of Tryz.func77 rfl rfl rfl ?_
  repeat (first | refine wp_seq_region ?_ | refine wp_seq_seq ?_ | refine wp_region ?_ | refine r_move (by conv => (lhs; whnf)) ?_ | refine r_assign (by conv => (lhs; whnf)) ?_ | refine r_nil ?_)
  refine r_call (check_c (mb := 0) (ts := [t1, t2]) (l := [1, 1]) (tb := [tb]) (lb := [-1]) hS ht hl hb ⟨h1, h2, trivial⟩ (show 2 ≤ 2 by decide) (by decide) ?_ hbb ⟨hB, trivial⟩ (show 1 ≤ 1 by decide) ?_) rfl ?_
  · intro q hq
    simp only [List.mem_cons, List.not_mem_nil, or_false] at hq
    rcases hq with rfl | rfl <;> exact short_one
  · intro q hq
    simp only [List.mem_cons, List.not_mem_nil, or_false] at hq
    subst hq
    exact short_neg
  rintro v1 w1 ⟨rfl, k1⟩
  repeat (first | refine wp_seq_region ?_ | refine wp_region ?_ | refine r_move (by conv => (lhs; whnf)) ?_ | refine r_nil ?_ | refine q_then ?_ | refine wp_skip ?_ | refine r_neq rfl rfl ?_ | refine wp_cond_no rfl (by omega) ?_)
  refine r_call (simplex_c (hS.to k1) (ht.to k1) (hl.to k1) (hb.to k1) (h1.to k1) (h2.to k1) (hbb.to k1) (hB.to k1)) rfl ?_
  rintro v2 w2 ⟨k2, gs, gc, gg, capg, rows, basic, tc, rfl, hgs, hgc, hrc, cs, hgg⟩
  repeat (first | refine wp_seq_region ?_ | refine wp_region ?_ | refine r_move (by conv => (lhs; whnf)) ?_ | refine r_assign (by conv => (lhs; whnf)) ?_ | refine r_nil ?_)
  refine r_call (run_c hgs hgc hrc) rfl ?_
  rintro v3 w3 k3
  replace hgs := hgs.to k3
  replace hgc := hgc.to k3
  replace hgg := hgg.to k3
  replace hrc := hrc.to k3
  have k := (k1.trans k2).trans k3
  have hS3 := hS.to k
  clear k1 k2 k3
  match tc, hrc with
  | [a, b, c, d], ⟨ha, hb', hc, hdd, _⟩ =>
  repeat (first | refine wp_seq_region ?_ | refine wp_seq_seq ?_ | refine r_nil ?_)
  refine wp_drawn 13 (by kernel_rfl) (by kernel_rfl) ?_
  apply ob_step
  · intro x w1 k1 hd
    refine r_move (by conv => (lhs; whnf)) ?_
    refine r_nil ?_
    exact ob_eq
  apply ob_step
  · intro x w1 k1 hd
    refine r_nilCheck rfl ?_
    refine r_nil ?_
    exact ob_eq
  apply ob_step
  · intro x w1 k1 hd
    refine r_field rfl ?_
    refine r_nil ?_
    exact ob_eq
  apply ob_step
  · intro x w1 k1 hd
    refine r_load_blk rfl (hgs.to k1) rfl ?_
    refine r_nil ?_
    exact ob_eq
  apply ob_step
  · intro x w1 k1 hd
    refine r_move (by conv => (lhs; whnf)) ?_
    refine r_nil ?_
    exact ob_eq
  apply ob_step
  · intro x w1 k1 hd
    refine r_nilCheck rfl ?_
    refine r_nil ?_
    exact ob_eq
  apply ob_step
  · intro x w1 k1 hd
    refine r_field rfl ?_
    refine r_nil ?_
    exact ob_eq
  apply ob_step
  · intro x w1 k1 hd
    refine r_load_blk rfl (hgs.to k1) rfl ?_
    refine r_nil ?_
    exact ob_eq
  apply ob_step
  · intro x w1 k1 hd
    refine r_len_sl rfl ?_
    refine r_nil ?_
    exact ob_eq
  apply ob_step
  · intro x w1 k1 hd
    refine r_subI rfl rfl (by omega) (by omega) ?_
    refine r_nil ?_
    exact ob_eq
  apply ob_step
  · intro x w1 k1 hd
    refine r_index_sl rfl rfl (by omega) (by omega) ?_
    refine r_nil ?_
    exact ob_eq
  apply ob_step
  · intro x w1 k1 hd
    refine r_load_tri 3 rfl (by decide) (hgc.to k1) rfl ?_
    refine r_nil ?_
    exact ob_eq
  refine ob_step (e := Ent.eq (.int .i64 (-1 : Rat).num.sign)) ?_ ?_
  · intro x w1 k1 hd
    refine r_call (rsign_c (v := d.val) (hdd.to k1)) rfl ?_
    rintro v2 w2 ⟨rfl, k2⟩
    exact r_nil (ob_eq_to k2)
  refine ob_nil (ob_end ?_)
  intro x w4 k4 hall
  replace hgs := hgs.to k4
  replace hgc := hgc.to k4
  replace hgg := hgg.to k4
  replace hc := hc.to k4
  replace k := k.trans k4
  have hS4 := hS3.to k4
  clear k4 hall
  repeat (first | refine r_nil ?_ | refine q_then ?_ | refine r_eql rfl rfl ?_)
  first | refine wp_cond_no rfl (by decide) ?_ | refine wp_if_no rfl (by decide) ?_ | skip
  repeat (first | refine r_load_blk rfl hgs rfl ?_ | refine wp_seq_region ?_ | refine wp_seq_seq ?_ | refine wp_region ?_ | refine r_move (by conv => (lhs; whnf)) ?_ | refine r_assign (by conv => (lhs; whnf)) ?_ | refine r_nil ?_ | refine q_then ?_ | refine wp_skip ?_ | refine r_len_sl rfl ?_ | refine r_field rfl ?_ | refine r_nilCheck rfl ?_)
  try refine wp_seq_block ?_
  refine unr_for 3 ?_
  repeat (first | refine unr_step ?_ | refine r_load_blk rfl hgg rfl ?_ | refine wp_seq_region ?_ | refine wp_seq_bseq ?_ | refine wp_region ?_ | refine r_move (by conv => (lhs; whnf)) ?_ | refine r_assign (by conv => (lhs; whnf)) ?_ | refine r_nil ?_ | refine q_then ?_ | refine wp_block_seq ?_ | refine wp_skip ?_ | refine r_lss rfl rfl ?_ | refine r_index_sl rfl rfl (by omega) (by omega) ?_ | refine wp_if_yes rfl (by omega) ?_)
  refine wp_drawn 15 (by kernel_rfl) (by kernel_rfl) ?_
  apply ob_step
  · intro x w1 k1 hd
    refine r_move (by conv => (lhs; whnf)) ?_
    refine r_nil ?_
    exact ob_eq
  apply ob_step
  · intro x w1 k1 hd
    refine r_nilCheck rfl ?_
    refine r_nil ?_
    exact ob_eq
  apply ob_step
  · intro x w1 k1 hd
    refine r_field rfl ?_
    refine r_nil ?_
    exact ob_eq
  apply ob_step
  · intro x w1 k1 hd
    refine r_load_blk rfl (hgs.to k1) rfl ?_
    refine r_nil ?_
    exact ob_eq
  apply ob_step
  · intro x w1 k1 hd
    refine r_move (by conv => (lhs; whnf)) ?_
    refine r_nil ?_
    exact ob_eq
  apply ob_step
  · intro x w1 k1 hd
    refine r_nilCheck rfl ?_
    refine r_nil ?_
    exact ob_eq
  apply ob_step
  · intro x w1 k1 hd
    refine r_field rfl ?_
    refine r_nil ?_
    exact ob_eq
  apply ob_step
  · intro x w1 k1 hd
    refine r_load_blk rfl (hgs.to k1) rfl ?_
    refine r_nil ?_
    exact ob_eq
  apply ob_step
  · intro x w1 k1 hd
    refine r_move (by conv => (lhs; whnf)) ?_
    refine r_nil ?_
    exact ob_eq
  apply ob_step
  · intro x w1 k1 hd
    refine r_addI rfl rfl (by omega) (by omega) ?_
    refine r_nil ?_
    exact ob_eq
  apply ob_step
  · intro x w1 k1 hd
    refine r_index_sl rfl rfl (by omega) (by omega) ?_
    refine r_nil ?_
    exact ob_eq
  apply ob_step
  · intro x w1 k1 hd
    refine r_load_tri 2 rfl (by decide) (hgc.to k1) rfl ?_
    refine r_nil ?_
    exact ob_eq
  refine ob_step (e := ratE S ((1 : Int) : Rat)) ?_ ?_
  · intro x w1 k1 hd
    refine r_call (of_c (z := 1) (hS4.to k1) (by decide) (by decide)) rfl ?_
    rintro v2 w2 ⟨k2, h2⟩
    exact r_nil (ob_of k2 h2)
  refine ob_step (e := ratE S (0 - ((1 : Int) : Rat))) ?_ ?_
  · intro x w1 k1 hd
    refine r_call (rminus_c (va := c.val) (hS4.to k1) (hc.to k1) hd.1 rl_zero (rl_one (by decide))) rfl ?_
    rintro v2 w2 ⟨k2, h2⟩
    exact r_nil (ob_of k2 h2)
  refine ob_step (e := Ent.of (fun v w => ∃ g, v = .pointer (some ⟨g, 0, none⟩) ∧ Blk w g 34 [.bool false, .slice none 0 0, .slice none 0 0] ∧ w4.heap.size ≤ g) (fun v w w' ⟨g, h, hb, hg⟩ k => ⟨g, h, hb.to k, hg⟩)) ?_ ?_
  · intro x w1 k1 hd
    refine r_alloc (cs := [.bool false, .slice none 0 0, .slice none 0 0]) rfl ?_
    intro w2 g k2 hg hgs
    exact r_nil (ob_of k2 ⟨g, rfl, hg, by have := k1.size; omega⟩)
  refine ob_nil (ob_end ?_)
  intro x5 w5 k5 hall
  obtain ⟨gx, hvx, hgx, hgxs⟩ : ∃ g, x5 14 = .pointer (some ⟨g, 0, none⟩) ∧ Blk w5 g 34 [.bool false, .slice none 0 0, .slice none 0 0] ∧ w4.heap.size ≤ g := hall.1
  obtain ⟨t5, hv5, h5, o1, o2, o3⟩ := RatV.tri (show RatV S w5 (x5 13) (0 - ((1 : Int) : Rat)) from hall.2.1)
  refine r_learn 10 hvx ?_
  refine r_store3 rfl hv5 hgx rfl o1 o2 o3 ?_
  intro w6 k6 hgx6
  have hk := k.size
  replace k := (k.trans k5).past k6 (by omega)
  replace h5 := h5.wrT k6 hgx (by decide)
  replace hgx : Blk w6 gx 34 (flat [t5]) := hgx6
  have hS6 := hS.to k
  clear k5 k6 hgx6 hall hgs hgc hgg
  repeat (first | refine wp_seq_region ?_ | refine wp_seq_seq ?_ | refine wp_region ?_ | refine r_move (by conv => (lhs; whnf)) ?_ | refine r_nil ?_ | refine q_then ?_ | refine wp_cond_true rfl ?_)
  repeat (first | refine r_load_tri 0 rfl (by decide) hgx rfl ?_)
  refine r_call (rneg_c (v := t5.val) h5) rfl ?_
  rintro v7 w7 ⟨k7, hn⟩
  obtain ⟨n7, rfl, hn, p1, p2, p3⟩ := RatV.tri hn
  replace hgx := hgx.to k7
  skip
  refine r_store3 rfl rfl hgx rfl p1 p2 p3 ?_
  intro w8 k8 hgx8
  replace k := (k.trans k7).past k8 (by omega)
  replace hn := hn.wrT k8 hgx (by decide)
  replace hgx : Blk w8 gx 34 (flat [n7]) := hgx8
  clear k7 k8 hgx8
  repeat (first | refine r_load_tri 0 rfl (by decide) hgx rfl ?_ | refine wp_region ?_ | refine r_move (by conv => (lhs; whnf)) ?_ | refine r_nil ?_)
  refine r_lit_tri1 (u := n7) rfl p1 p2 p3 ?_
  intro w9 g9 k9 hg9 hgs9
  have hb9 := hg9.lt
  skip
  refine r_append1 (base := g9) (m := 0) (xs := []) (cs := [n7.1, n7.2.1, n7.2.2]) rfl own_nil rfl hg9 (show 0 < 3 by decide) rfl (ones3 p1 p2 p3) (by decide) (by decide) (by omega) ?_
  intro vw w10 hvw k10
  have k10' : Ext w9 w10 := k10.mono fun i _ e => by cases e
  obtain ⟨gv, capv, cv, rfl, hgv⟩ : ∃ gv capv cs, vw = .slice (some ⟨gv, 0, none⟩) 1 capv ∧ Blk w10 gv 34 (n7.1 :: n7.2.1 :: n7.2.2 :: cs) := by
    rcases hvw.2 with ⟨hv, h0⟩ | ⟨g, cap, cur, hv, hb, hg, hn, hm, hc, htk⟩
    · omega
    · have hcur : cur.toList = n7.1 :: n7.2.1 :: n7.2.2 :: cur.toList.drop 3 := by
        have e1 : cur.toList.take 3 = [n7.1, n7.2.1, n7.2.2] := htk
        rw [← List.take_append_drop 3 cur.toList, e1]
        simp
      refine ⟨g, cap, cur.toList.drop 3, hv, ?_⟩
      unfold Blk
      rw [← hcur]
      simpa using hg
  clear hvw k10
  replace hn := (hn.to k9).to k10'
  repeat (first | refine unr_step ?_ | refine wp_seq_region ?_ | refine wp_region ?_ | refine r_move (by conv => (lhs; whnf)) ?_ | refine r_assign (by conv => (lhs; whnf)) ?_ | refine r_nil ?_ | refine q_then ?_ | refine wp_ret ?_ | refine wp_exit ?_ | refine r_lss rfl rfl ?_ | refine r_addI rfl rfl (by omega) (by omega) ?_ | refine wp_if_no rfl (by omega) ?_)
  refine end_tmp2 rfl (by conv => (lhs; whnf)) (by conv => (lhs; whnf)) ⟨(k.trans k9).trans k10', gv, capv, n7, cv, rfl, hgv, ?_⟩
  have e : - (0 - ((1 : Int) : Rat)) = 1 := by decide +kernel
  rwa [e] at hn
end Go.Proofs.YtpmnjjmngogkkaaGreatDoor
