/- Systems of one row: that nothing is wrong with them. -/
import Derived.Test.YtpmnjjmngogkkaaGreatDoorVec2
set_option linter.unusedVariables false
set_option linter.unusedSimpArgs false
namespace Go.Proofs.YtpmnjjmngogkkaaGreatDoor
open Go Go.RowKit

section
variable {S : Nat → Prop} {w : World} {gl gr m cap : Nat} {ts : List Tri} {l : List Rat}
theorem oneRow_c {gx : Nat} (hx : Blk w gx 93 [.slice (some ⟨gl, 0, none⟩) 1 1]) (hl : Blk w gl 95 [.slice (some ⟨gr, 0, none⟩) m cap]) :
    Gives Tryz.prog 162 [.slice (some ⟨gr, 0, none⟩) m cap, .pointer (some ⟨gx, 0, none⟩)] w fun v' w' => v' = .bool (tst ((m : Int) ≠ m)) ∧ w' = w := by
  refine gives_of Tryz.func162 rfl rfl rfl ?_
  repeat (first | refine r_load_blk rfl hx rfl ?_ | refine r_load_blk rfl hl rfl ?_ | refine wp_seq_region ?_ | refine wp_region ?_ | refine r_move (by conv => (lhs; whnf)) ?_ | refine r_assign (by conv => (lhs; whnf)) ?_ | refine r_nil ?_ | refine q_then ?_ | refine wp_ret ?_ | refine r_len_sl rfl ?_ | refine r_neq rfl rfl ?_ | refine r_index_sl rfl rfl (by omega) (by omega) ?_)
  exact end_tmp rfl (by conv => (lhs; whnf)) ⟨rfl, rfl⟩
theorem indexRow_c {gx : Nat} (hx : Blk w gx 93 [.slice (some ⟨gl, 0, none⟩) 1 1]) (hl : Blk w gl 95 [.slice (some ⟨gr, 0, none⟩) m cap]) :
    Gives Tryz.prog 201 [.slice (some ⟨gl, 0, none⟩) 1 1, .func (.func 162) #[] #[.pointer (some ⟨gx, 0, none⟩)]] w fun v' w' => v' = .int .i64 (-1) ∧ w' = w := by
  refine gives_of Tryz.func201 rfl rfl rfl ?_
  repeat (first | refine wp_seq_region ?_ | refine wp_seq_seq ?_ | refine wp_region ?_ | refine r_move (by conv => (lhs; whnf)) ?_ | refine r_assign (by conv => (lhs; whnf)) ?_ | refine r_nil ?_ | refine q_then ?_ | refine r_len_sl rfl ?_)
  try refine wp_seq_block ?_
  refine unr_for 3 ?_
  repeat (first | refine unr_step ?_ | refine r_load_blk rfl hl rfl ?_ | refine wp_seq_region ?_ | refine wp_seq_bseq ?_ | refine wp_region ?_ | refine r_move (by conv => (lhs; whnf)) ?_ | refine r_assign (by conv => (lhs; whnf)) ?_ | refine r_nil ?_ | refine q_then ?_ | refine wp_block_seq ?_ | refine wp_skip ?_ | refine r_lss rfl rfl ?_ | refine r_index_sl rfl rfl (by omega) (by omega) ?_ | refine wp_if_yes rfl (by omega) ?_)
  refine r_callv (first := []) (cap := [.pointer (some ⟨gx, 0, none⟩)]) rfl (oneRow_c hx hl) rfl ?_
  rintro v1 w1 ⟨rfl, rfl⟩
  repeat (first | refine unr_step ?_ | refine wp_seq_region ?_ | refine wp_region ?_ | refine r_move (by conv => (lhs; whnf)) ?_ | refine r_assign (by conv => (lhs; whnf)) ?_ | refine r_nil ?_ | refine q_then ?_ | refine wp_ret ?_ | refine wp_skip ?_ | refine wp_exit ?_ | refine r_lss rfl rfl ?_ | refine r_addI rfl rfl (by omega) (by omega) ?_ | refine wp_if_no rfl (by omega) ?_ | refine wp_cond_no rfl (by omega) ?_)
  exact end_tmp rfl (by conv => (lhs; whnf)) ⟨rfl, rfl⟩
theorem containsRow_c {gx : Nat} (hx : Blk w gx 93 [.slice (some ⟨gl, 0, none⟩) 1 1]) (hl : Blk w gl 95 [.slice (some ⟨gr, 0, none⟩) m cap]) :
    Gives Tryz.prog 161 [.slice (some ⟨gl, 0, none⟩) 1 1, .func (.func 162) #[] #[.pointer (some ⟨gx, 0, none⟩)]] w fun v' w' => v' = .bool false ∧ w' = w := by
  refine gives_of Tryz.func161 rfl rfl rfl ?_
  repeat (first | refine wp_seq_region ?_ | refine wp_region ?_ | refine r_move (by conv => (lhs; whnf)) ?_ | refine r_assign (by conv => (lhs; whnf)) ?_ | refine r_nil ?_)
  refine r_call (indexRow_c hx hl) rfl ?_
  rintro v2 w2 ⟨rfl, rfl⟩
  repeat (first | refine r_assign (by conv => (lhs; whnf)) ?_ | refine r_nil ?_ | refine q_then ?_ | refine wp_ret ?_ | refine r_geq rfl rfl ?_)
  exact end_tmp rfl (by conv => (lhs; whnf)) ⟨by show Value.bool (tst _) = _; rw [tst_false (by omega)], rfl⟩
/-- Fractions of few digits are small. -/
theorem rl_short {q : Rat} (h : Short q) : rl q 8 := by
  have h1 : ∀ a, Lib.nDigits a ≤ 60 → dl a ≤ 8 := fun a ha => dl_le (Nat.lt_of_lt_of_le (Lib.lt_pow_nDigits a) (Nat.le_trans (Nat.pow_le_pow_right (by omega) ha) (by decide)))
  exact ⟨h1 _ h.1, h1 _ h.2⟩
theorem checkRows_c (hS : Up S w) (ht : Tab w) (hl : Blk w gl 95 [.slice (some ⟨gr, 0, none⟩) m cap]) (hb : Blk w gr 34 (flat ts)) (hr : Rats S w (ts.take m) l) (hm : m ≤ ts.length) (hmm : m ≤ 40) (hs : ∀ q ∈ l, Short q) :
    Gives Tryz.prog 122 [.slice (some ⟨gl, 0, none⟩) 1 1] w fun v' w' => v' = .int .i64 0 ∧ Ext w w' := by
  refine gives_of Tryz.func122 rfl rfl rfl ?_
  repeat (first | refine wp_seq_region ?_ | refine wp_region ?_)
  refine r_box1 (v := .slice (some ⟨gl, 0, none⟩) 1 1) rfl rfl ?_
  intro w1 gx k1 hx hgs
  have hl1 := hl.to k1
  repeat (first | refine r_load_blk rfl hx rfl ?_ | refine r_load_blk rfl hl1 rfl ?_ | refine wp_seq_region ?_ | refine wp_seq_seq ?_ | refine wp_region ?_ | refine r_move (by conv => (lhs; whnf)) ?_ | refine r_assign (by conv => (lhs; whnf)) ?_ | refine r_nil ?_ | refine q_then ?_ | refine wp_skip ?_ | refine r_len_sl rfl ?_ | refine r_guard_run rfl rfl ?_ | refine r_pick_true rfl (by conv => (lhs; whnf)) ?_ | refine r_pick_false rfl (by conv => (lhs; whnf)) ?_ | refine r_gtr rfl rfl ?_ | refine r_index_sl rfl rfl (by omega) (by omega) ?_ | refine r_func ?_ | refine wp_cond_no rfl (by omega) ?_ | refine r_guard_yes rfl rfl (by omega) ?_ | refine r_guard_no rfl rfl (by omega) ?_)
  refine r_call (containsRow_c hx hl1) rfl ?_
  rintro v2 w2 ⟨rfl, rfl⟩
  repeat (first | refine r_load_blk rfl hx rfl ?_ | refine wp_seq_region ?_ | refine wp_seq_seq ?_ | refine wp_region ?_ | refine r_move (by conv => (lhs; whnf)) ?_ | refine r_nil ?_ | refine q_then ?_ | refine wp_skip ?_ | refine r_len_sl rfl ?_ | refine wp_cond_false rfl ?_)
  try refine wp_seq_block ?_
  refine unr_for 3 ?_
  repeat (first | refine unr_step ?_ | refine r_load_blk rfl hl1 rfl ?_ | refine wp_seq_region ?_ | refine wp_seq_bseq ?_ | refine wp_region ?_ | refine r_move (by conv => (lhs; whnf)) ?_ | refine r_assign (by conv => (lhs; whnf)) ?_ | refine r_nil ?_ | refine q_then ?_ | refine wp_block_seq ?_ | refine wp_skip ?_ | refine r_lss rfl rfl ?_ | refine r_index_sl rfl rfl (by omega) (by omega) ?_ | refine wp_if_yes rfl (by omega) ?_)
  refine r_call (contains_c (first := []) (caps := []) (fun q => ¬ Short q) (hb.to k1) (hr.to k1) hm (by omega) ?_) rfl ?_
  · intro w' v q k hq hql
    exact long_c (hS.to (k1.trans k)) (ht.to (k1.trans k)) hq (by have := rl_short (hs q hql); exact ⟨by omega, by omega⟩)
  rintro v3 w3 ⟨rfl, k3⟩
  repeat (first | refine r_nil ?_ | refine q_then ?_)
  refine wp_cond_no rfl (fun ⟨q, h1, h2⟩ => h2 (hs q h1)) ?_
  repeat (first | refine unr_step ?_ | refine wp_seq_region ?_ | refine wp_region ?_ | refine r_move (by conv => (lhs; whnf)) ?_ | refine r_assign (by conv => (lhs; whnf)) ?_ | refine r_nil ?_ | refine q_then ?_ | refine wp_ret ?_ | refine wp_skip ?_ | refine wp_exit ?_ | refine r_lss rfl rfl ?_ | refine r_addI rfl rfl (by omega) (by omega) ?_ | refine wp_if_no rfl (by omega) ?_)
  exact end_tmp rfl (by conv => (lhs; whnf)) ⟨rfl, k1.trans k3⟩
theorem check_c {gb mb capb : Nat} {tb : List Tri} {lb : List Rat} (hS : Up S w) (ht : Tab w) (hl : Blk w gl 95 [.slice (some ⟨gr, 0, none⟩) m cap]) (hb : Blk w gr 34 (flat ts)) (hr : Rats S w (ts.take m) l) (hm : m ≤ ts.length) (hmm : m ≤ 40) (hs : ∀ q ∈ l, Short q)
    (hbb : Blk w gb 34 (flat tb)) (hrb : Rats S w (tb.take 1) lb) (hmb : 1 ≤ tb.length) (hsb : ∀ q ∈ lb, Short q) :
    Gives Tryz.prog 126 [.slice (some ⟨gl, 0, none⟩) 1 1, .slice (some ⟨gb, 0, none⟩) 1 capb] w fun v' w' => v' = .int .i64 0 ∧ Ext w w' := by
  refine gives_of Tryz.func126 rfl rfl rfl ?_
  repeat (first | refine wp_seq_region ?_ | refine wp_seq_seq ?_ | refine wp_region ?_ | refine r_move (by conv => (lhs; whnf)) ?_ | refine r_assign (by conv => (lhs; whnf)) ?_ | refine r_nil ?_)
  refine r_call (checkRows_c hS ht hl hb hr hm hmm hs) rfl ?_
  rintro v1 w1 ⟨rfl, k1⟩
  repeat (first | refine wp_seq_region ?_ | refine wp_seq_bseq ?_ | refine wp_region ?_ | refine r_move (by conv => (lhs; whnf)) ?_ | refine r_assign (by conv => (lhs; whnf)) ?_ | refine r_nil ?_ | refine q_then ?_ | refine wp_block_seq ?_ | refine wp_skip ?_ | refine r_len_sl rfl ?_ | refine r_guard_skip rfl rfl rfl ?_ | refine r_pick_false rfl (by conv => (lhs; whnf)) ?_ | refine r_neq rfl rfl ?_ | refine wp_cond_false rfl ?_ | refine wp_cond_no rfl (by omega) ?_ | refine r_guard_no rfl rfl (by omega) ?_)
  refine r_call (checkRows_c (hS.to k1) (ht.to k1) (hl.to k1) (hb.to k1) (hr.to k1) hm hmm hs) rfl ?_
  rintro v2 w2 ⟨rfl, k2⟩
  repeat (first | refine r_move (by conv => (lhs; whnf)) ?_ | refine r_guard_run rfl rfl ?_ | refine r_eql rfl rfl ?_ | refine r_guard_no rfl rfl (by omega) ?_)
  refine r_call (contains_c (first := []) (caps := []) (fun q => ¬ Short q) ((hbb.to k1).to k2) ((hrb.to k1).to k2) hmb (by omega) ?_) rfl ?_
  · intro w' v q k hq hql
    exact long2_c (((hS.to k1).to k2).to k) (((ht.to k1).to k2).to k) hq (by have := rl_short (hsb q hql); exact ⟨by omega, by omega⟩)
  rintro v3 w3 ⟨rfl, k3⟩
  repeat (first | refine r_assign (by conv => (lhs; whnf)) ?_ | refine r_nil ?_ | refine q_then ?_ | refine r_pick_false rfl (by conv => (lhs; whnf)) ?_)
  first | refine wp_cond_no rfl (fun ⟨q, h1, h2⟩ => h2 (hsb q h1)) ?_ | refine wp_if_no rfl (fun ⟨q, h1, h2⟩ => h2 (hsb q h1)) ?_
  repeat (first | refine wp_seq_region ?_ | refine wp_region ?_ | refine r_assign (by conv => (lhs; whnf)) ?_ | refine r_nil ?_ | refine q_then ?_ | refine wp_ret ?_ | refine wp_skip ?_)
  exact end_tmp rfl (by conv => (lhs; whnf)) ⟨rfl, (k1.trans k2).trans k3⟩
end
end Go.Proofs.YtpmnjjmngogkkaaGreatDoor
