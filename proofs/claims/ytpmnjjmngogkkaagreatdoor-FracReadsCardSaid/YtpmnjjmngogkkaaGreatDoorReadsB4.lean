/- I64 SymV SymE SymF SymG SymH SymI SymJ SymK SymL SymM Env SymN SymO SymP -/
import Derived.Test.YtpmnjjmngogkkaaGreatDoorReadsB1
import Derived.Test.YtpmnjjmngogkkaaGreatDoorReadsB3
import Derived.Test.YtpmnjjmngogkkaaGreatDoorReadsB2
import Derived.KernelRfl
section
set_option linter.unusedVariables false
set_option linter.unusedSimpArgs false
namespace Go.Proofs.YtpmnjjmngogkkaaGreatDoor
open Go Go.RowKit
/-- The library's error for numbers that are out of range lies as it was laid. -/
def RangeV (w : World) : Prop := ∃ tp p, w.var? Tryz.prog "strconv.ErrRange" = some #[.iface tp p]
theorem RangeV.to {w w' : World} (h : RangeV w) (k : Ext w w') : RangeV w' := by
  obtain ⟨tp, p, h⟩ := h
  refine ⟨tp, p, ?_⟩
  unfold World.var? at *
  cases hg : (Tryz.prog).globalNamed "strconv.ErrRange" with
  | none => simp [hg] at h
  | some g =>
    simp only [hg, Option.bind_eq_bind, Option.bind_some] at h ⊢
    cases hb : w.heap[g]? with
    | none => rw [hb] at h; cases h
    | some o =>
      rw [k.block g (Array.getElem?_eq_some_iff.1 hb).1 trivial]
      exact h
theorem pint_ok {w : World} {s : List UInt8} {z : Int} (hl : s.length ≤ 281474976710656) (h : Lib.parseIntB 64 s = .ok z) :
    Gives Tryz.prog 118 [strV s, .int .i64 10, .int .i64 64] w fun v' w' => v' = .tuple #[.int .i64 z, .nilIface] ∧ Ext w w' :=
  Calls.mono (Tryz.strconv_ParseInt_10_at64_ok ⟨s.toArray⟩ (by rw [size_str]; omega) z h w) fun e w' ⟨he, hw⟩ => ⟨_, he, rfl, hw.elim (fun e => e ▸ .refl) fun ⟨t, e⟩ => e ▸ ext_bytes⟩
theorem pint_range {w : World} {s : List UInt8} (he : RangeV w) (hl : s.length ≤ 281474976710656) (h : Lib.parseIntB 64 s = .range) :
    Gives Tryz.prog 118 [strV s, .int .i64 10, .int .i64 64] w fun v' w' => (∃ T g, v' = .tuple #[.int .i64 (Lib.intSat 64 s), .iface T (.pointer (some ⟨g, 0, none⟩))]) ∧ Ext w w' := by
  obtain ⟨tp, p, hv⟩ := he
  exact Calls.mono (Tryz.strconv_ParseInt_10_at64_range_var ⟨s.toArray⟩ (by rw [size_str]; omega) h tp p w hv) fun e w' ⟨g, he, _, _, hw⟩ => ⟨_, he, ⟨_, g, rfl⟩, .of_below hw⟩
theorem int64_c {S : Nat → Prop} {w : World} {va : Value} {z : Int} (ht : Tab w) (he : RangeV w) (ha : IntV S 127 .u32 w va z) (hl : zl z ≤ 1099511627776) (hn : (Lib.itoa z).length ≤ 281474976710656) :
    Gives Tryz.prog 58 [va] w fun v' w' => v' = .tuple #[.int .i64 (if I64 z then z else 0), .bool (tst (I64 z))] ∧ Ext w w' := by
  obtain ⟨ma, rfl, ha⟩ := ha
  have hp := parse_itoa z
  refine gives_of Tryz.func58 rfl rfl rfl ?_
  have k : Ext w w := .refl
  repeat (first | refine wp_seq_region ?_ | refine wp_seq_seq ?_ | refine wp_seq_bregion ?_ | refine wp_seq_bseq ?_ | refine wp_seq_skip ?_ | refine wp_region ?_ | refine r_move (by conv => (lhs; whnf)) ?_ | refine r_assign (by conv => (lhs; whnf)) ?_ | refine r_nil ?_ | refine q_then ?_ | refine wp_block_region ?_ | refine wp_block_seq ?_ | refine wp_block_cond ?_ | refine wp_block_block ?_ | refine wp_block_skip ?_ | refine wp_ret ?_ | refine q_then_ret ?_ | refine q_block_ret ?_ | refine wp_skip ?_ | refine wp_exit ?_ | refine q_then_exit ?_ | refine q_block ?_ | refine q_block_hit rfl ?_ | refine q_block_miss rfl ?_ | refine r_extract rfl rfl ?_ | refine r_len_sl rfl ?_ | refine r_len (by conv => (lhs; whnf)) (by assumption) ?_ | refine r_len_str rfl ?_ | refine r_guard_run rfl rfl ?_ | refine r_guard_skip rfl rfl rfl ?_ | refine r_guard_undef rfl rfl ?_ | refine r_pick_true rfl (by conv => (lhs; whnf)) ?_ | refine r_pick_false rfl (by conv => (lhs; whnf)) ?_ | refine r_lss rfl rfl ?_ | refine r_eql rfl rfl ?_ | refine r_neq rfl rfl ?_ | refine r_gtr rfl rfl ?_ | refine r_geq rfl rfl ?_ | refine r_leq rfl rfl ?_ | refine r_addI rfl rfl (by omega) (by omega) ?_ | refine r_subI rfl rfl (by omega) (by omega) ?_ | refine r_index_sl rfl rfl (by omega) (by omega) ?_ | refine r_index (by conv => (lhs; whnf)) rfl (by assumption) (by omega) (by omega) ?_ | refine r_conv rfl (wrap_i64 (by omega) (by omega)) ?_ | refine r_conv rfl (wrap_u64 (by omega) (by omega)) ?_ | refine r_conv rfl (wrap_u32 (by omega) (by omega)) ?_ | refine r_remP rfl rfl (by omega) (by omega) ?_ | refine r_quoU rfl rfl (by omega) (by omega) (by omega) ?_ | refine r_quoI rfl rfl (by omega) (by omega) (by omega) ?_ | refine r_max rfl rfl ?_ | refine r_min rfl rfl ?_ | refine r_notB rfl ?_ | refine r_not rfl ?_ | refine r_eqlB rfl rfl ?_ | refine r_neqB rfl rfl ?_ | refine r_func ?_ | refine r_field rfl ?_ | refine wp_if_true rfl ?_ | refine wp_if_false rfl ?_ | refine wp_if_yes rfl (by omega) ?_ | refine wp_if_no rfl (by omega) ?_ | refine wp_cond_true rfl ?_ | refine wp_cond_false rfl ?_ | refine wp_cond_yes rfl (by omega) ?_ | refine wp_cond_no rfl (by omega) ?_ | refine r_guard_yes rfl rfl (by omega) ?_ | refine r_guard_no rfl rfl (by omega) ?_ | refine r_nilCheck rfl ?_)
  refine r_box (cs := [.bool (tst (z < 0)), ma]) (by conv => (lhs; whnf)) rfl ?_
  intro w_1 g1 k_1 hg1 hs_1
  have hsg1 : w.heap.size ≤ g1 := Nat.le_trans k.size hs_1
  clear hs_1
  replace ht := ht.to k_1
  replace he := he.to k_1
  replace ha := ha.to k_1
  replace k := k.trans k_1
  clear k_1
  repeat (first | refine r_load_all rfl hg1 rfl ?_ | refine wp_seq_region ?_ | refine wp_seq_seq ?_ | refine wp_seq_bregion ?_ | refine wp_seq_bseq ?_ | refine wp_seq_skip ?_ | refine wp_region ?_ | refine r_move (by conv => (lhs; whnf)) ?_ | refine r_assign (by conv => (lhs; whnf)) ?_ | refine r_nil ?_ | refine q_then ?_ | refine wp_block_region ?_ | refine wp_block_seq ?_ | refine wp_block_cond ?_ | refine wp_block_block ?_ | refine wp_block_skip ?_ | refine wp_ret ?_ | refine q_then_ret ?_ | refine q_block_ret ?_ | refine wp_skip ?_ | refine wp_exit ?_ | refine q_then_exit ?_ | refine q_block ?_ | refine q_block_hit rfl ?_ | refine q_block_miss rfl ?_ | refine r_extract rfl rfl ?_ | refine r_len_sl rfl ?_ | refine r_len (by conv => (lhs; whnf)) (by assumption) ?_ | refine r_len_str rfl ?_ | refine r_guard_run rfl rfl ?_ | refine r_guard_skip rfl rfl rfl ?_ | refine r_guard_undef rfl rfl ?_ | refine r_pick_true rfl (by conv => (lhs; whnf)) ?_ | refine r_pick_false rfl (by conv => (lhs; whnf)) ?_ | refine r_lss rfl rfl ?_ | refine r_eql rfl rfl ?_ | refine r_neq rfl rfl ?_ | refine r_gtr rfl rfl ?_ | refine r_geq rfl rfl ?_ | refine r_leq rfl rfl ?_ | refine r_addI rfl rfl (by omega) (by omega) ?_ | refine r_subI rfl rfl (by omega) (by omega) ?_ | refine r_index_sl rfl rfl (by omega) (by omega) ?_ | refine r_index (by conv => (lhs; whnf)) rfl (by assumption) (by omega) (by omega) ?_ | refine r_conv rfl (wrap_i64 (by omega) (by omega)) ?_ | refine r_conv rfl (wrap_u64 (by omega) (by omega)) ?_ | refine r_conv rfl (wrap_u32 (by omega) (by omega)) ?_ | refine r_remP rfl rfl (by omega) (by omega) ?_ | refine r_quoU rfl rfl (by omega) (by omega) (by omega) ?_ | refine r_quoI rfl rfl (by omega) (by omega) (by omega) ?_ | refine r_max rfl rfl ?_ | refine r_min rfl rfl ?_ | refine r_notB rfl ?_ | refine r_not rfl ?_ | refine r_eqlB rfl rfl ?_ | refine r_neqB rfl rfl ?_ | refine r_func ?_ | refine r_field rfl ?_ | refine wp_if_true rfl ?_ | refine wp_if_false rfl ?_ | refine wp_if_yes rfl (by omega) ?_ | refine wp_if_no rfl (by omega) ?_ | refine wp_cond_true rfl ?_ | refine wp_cond_false rfl ?_ | refine wp_cond_yes rfl (by omega) ?_ | refine wp_cond_no rfl (by omega) ?_ | refine r_guard_yes rfl rfl (by omega) ?_ | refine r_guard_no rfl rfl (by omega) ?_ | refine r_nilCheck rfl ?_)
  refine r_call (istr_c (S := S) ht ⟨ma, rfl, ha⟩ hl) rfl ?_
  rintro v_2 w_2 ⟨rfl, k_2⟩
  replace ht := ht.to k_2
  replace he := he.to k_2
  replace ha := ha.to k_2
  replace hg1 := hg1.to k_2
  replace k := k.trans k_2
  clear k_2
  repeat (first | refine wp_seq_region ?_ | refine wp_seq_seq ?_ | refine wp_seq_bregion ?_ | refine wp_seq_bseq ?_ | refine wp_seq_skip ?_ | refine wp_region ?_ | refine r_move (by conv => (lhs; whnf)) ?_ | refine r_assign (by conv => (lhs; whnf)) ?_ | refine r_nil ?_ | refine q_then ?_ | refine wp_block_region ?_ | refine wp_block_seq ?_ | refine wp_block_cond ?_ | refine wp_block_block ?_ | refine wp_block_skip ?_ | refine wp_ret ?_ | refine q_then_ret ?_ | refine q_block_ret ?_ | refine wp_skip ?_ | refine wp_exit ?_ | refine q_then_exit ?_ | refine q_block ?_ | refine q_block_hit rfl ?_ | refine q_block_miss rfl ?_ | refine r_extract rfl rfl ?_ | refine r_len_sl rfl ?_ | refine r_len (by conv => (lhs; whnf)) (by assumption) ?_ | refine r_len_str rfl ?_ | refine r_guard_run rfl rfl ?_ | refine r_guard_skip rfl rfl rfl ?_ | refine r_guard_undef rfl rfl ?_ | refine r_pick_true rfl (by conv => (lhs; whnf)) ?_ | refine r_pick_false rfl (by conv => (lhs; whnf)) ?_ | refine r_lss rfl rfl ?_ | refine r_eql rfl rfl ?_ | refine r_neq rfl rfl ?_ | refine r_gtr rfl rfl ?_ | refine r_geq rfl rfl ?_ | refine r_leq rfl rfl ?_ | refine r_addI rfl rfl (by omega) (by omega) ?_ | refine r_subI rfl rfl (by omega) (by omega) ?_ | refine r_index_sl rfl rfl (by omega) (by omega) ?_ | refine r_index (by conv => (lhs; whnf)) rfl (by assumption) (by omega) (by omega) ?_ | refine r_conv rfl (wrap_i64 (by omega) (by omega)) ?_ | refine r_conv rfl (wrap_u64 (by omega) (by omega)) ?_ | refine r_conv rfl (wrap_u32 (by omega) (by omega)) ?_ | refine r_remP rfl rfl (by omega) (by omega) ?_ | refine r_quoU rfl rfl (by omega) (by omega) (by omega) ?_ | refine r_quoI rfl rfl (by omega) (by omega) (by omega) ?_ | refine r_max rfl rfl ?_ | refine r_min rfl rfl ?_ | refine r_notB rfl ?_ | refine r_not rfl ?_ | refine r_eqlB rfl rfl ?_ | refine r_neqB rfl rfl ?_ | refine r_func ?_ | refine r_field rfl ?_ | refine wp_if_true rfl ?_ | refine wp_if_false rfl ?_ | refine wp_if_yes rfl (by omega) ?_ | refine wp_if_no rfl (by omega) ?_ | refine wp_cond_true rfl ?_ | refine wp_cond_false rfl ?_ | refine wp_cond_yes rfl (by omega) ?_ | refine wp_cond_no rfl (by omega) ?_ | refine r_guard_yes rfl rfl (by omega) ?_ | refine r_guard_no rfl rfl (by omega) ?_ | refine r_nilCheck rfl ?_)
  by_cases hz : I64 z
  · rw [if_pos hz] at hp
    refine r_call (pint_ok hn hp) rfl ?_
    rintro v_3 w_3 ⟨rfl, k_3⟩
    replace ht := ht.to k_3
    replace he := he.to k_3
    replace ha := ha.to k_3
    replace hg1 := hg1.to k_3
    replace k := k.trans k_3
    clear k_3
    repeat (first | refine r_neq_nilIface rfl ?_ | refine wp_seq_region ?_ | refine wp_seq_seq ?_ | refine wp_seq_bregion ?_ | refine wp_seq_bseq ?_ | refine wp_seq_skip ?_ | refine wp_region ?_ | refine r_move (by conv => (lhs; whnf)) ?_ | refine r_assign (by conv => (lhs; whnf)) ?_ | refine r_nil ?_ | refine q_then ?_ | refine wp_block_region ?_ | refine wp_block_seq ?_ | refine wp_block_cond ?_ | refine wp_block_block ?_ | refine wp_block_skip ?_ | refine wp_ret ?_ | refine q_then_ret ?_ | refine q_block_ret ?_ | refine wp_skip ?_ | refine wp_exit ?_ | refine q_then_exit ?_ | refine q_block ?_ | refine q_block_hit rfl ?_ | refine q_block_miss rfl ?_ | refine r_extract rfl rfl ?_ | refine r_len_sl rfl ?_ | refine r_len (by conv => (lhs; whnf)) (by assumption) ?_ | refine r_len_str rfl ?_ | refine r_guard_run rfl rfl ?_ | refine r_guard_skip rfl rfl rfl ?_ | refine r_guard_undef rfl rfl ?_ | refine r_pick_true rfl (by conv => (lhs; whnf)) ?_ | refine r_pick_false rfl (by conv => (lhs; whnf)) ?_ | refine r_lss rfl rfl ?_ | refine r_eql rfl rfl ?_ | refine r_neq rfl rfl ?_ | refine r_gtr rfl rfl ?_ | refine r_geq rfl rfl ?_ | refine r_leq rfl rfl ?_ | refine r_addI rfl rfl (by omega) (by omega) ?_ | refine r_subI rfl rfl (by omega) (by omega) ?_ | refine r_index_sl rfl rfl (by omega) (by omega) ?_ | refine r_index (by conv => (lhs; whnf)) rfl (by assumption) (by omega) (by omega) ?_ | refine r_conv rfl (wrap_i64 (by omega) (by omega)) ?_ | refine r_conv rfl (wrap_u64 (by omega) (by omega)) ?_ | refine r_conv rfl (wrap_u32 (by omega) (by omega)) ?_ | refine r_remP rfl rfl (by omega) (by omega) ?_ | refine r_quoU rfl rfl (by omega) (by omega) (by omega) ?_ | refine r_quoI rfl rfl (by omega) (by omega) (by omega) ?_ | refine r_max rfl rfl ?_ | refine r_min rfl rfl ?_ | refine r_notB rfl ?_ | refine r_not rfl ?_ | refine r_eqlB rfl rfl ?_ | refine r_neqB rfl rfl ?_ | refine r_func ?_ | refine r_field rfl ?_ | refine wp_if_true rfl ?_ | refine wp_if_false rfl ?_ | refine wp_if_yes rfl (by omega) ?_ | refine wp_if_no rfl (by omega) ?_ | refine wp_cond_true rfl ?_ | refine wp_cond_false rfl ?_ | refine wp_cond_yes rfl (by omega) ?_ | refine wp_cond_no rfl (by omega) ?_ | refine r_guard_yes rfl rfl (by omega) ?_ | refine r_guard_no rfl rfl (by omega) ?_ | refine r_nilCheck rfl ?_)
    exact end2 rfl (resV_tmp (by conv => (lhs; whnf))) (resV_tmp (by conv => (lhs; whnf))) ⟨by rw [if_pos hz, tst_true hz], k⟩
  · rw [if_neg hz] at hp
    refine r_call (pint_range he hn hp) rfl ?_
    rintro v_3 w_3 ⟨⟨T, g, rfl⟩, k_3⟩
    replace ht := ht.to k_3
    replace he := he.to k_3
    replace ha := ha.to k_3
    replace hg1 := hg1.to k_3
    replace k := k.trans k_3
    clear k_3
    repeat (first | refine r_neq_iface rfl ?_ | refine wp_seq_region ?_ | refine wp_seq_seq ?_ | refine wp_seq_bregion ?_ | refine wp_seq_bseq ?_ | refine wp_seq_skip ?_ | refine wp_region ?_ | refine r_move (by conv => (lhs; whnf)) ?_ | refine r_assign (by conv => (lhs; whnf)) ?_ | refine r_nil ?_ | refine q_then ?_ | refine wp_block_region ?_ | refine wp_block_seq ?_ | refine wp_block_cond ?_ | refine wp_block_block ?_ | refine wp_block_skip ?_ | refine wp_ret ?_ | refine q_then_ret ?_ | refine q_block_ret ?_ | refine wp_skip ?_ | refine wp_exit ?_ | refine q_then_exit ?_ | refine q_block ?_ | refine q_block_hit rfl ?_ | refine q_block_miss rfl ?_ | refine r_extract rfl rfl ?_ | refine r_len_sl rfl ?_ | refine r_len (by conv => (lhs; whnf)) (by assumption) ?_ | refine r_len_str rfl ?_ | refine r_guard_run rfl rfl ?_ | refine r_guard_skip rfl rfl rfl ?_ | refine r_guard_undef rfl rfl ?_ | refine r_pick_true rfl (by conv => (lhs; whnf)) ?_ | refine r_pick_false rfl (by conv => (lhs; whnf)) ?_ | refine r_lss rfl rfl ?_ | refine r_eql rfl rfl ?_ | refine r_neq rfl rfl ?_ | refine r_gtr rfl rfl ?_ | refine r_geq rfl rfl ?_ | refine r_leq rfl rfl ?_ | refine r_addI rfl rfl (by omega) (by omega) ?_ | refine r_subI rfl rfl (by omega) (by omega) ?_ | refine r_index_sl rfl rfl (by omega) (by omega) ?_ | refine r_index (by conv => (lhs; whnf)) rfl (by assumption) (by omega) (by omega) ?_ | refine r_conv rfl (wrap_i64 (by omega) (by omega)) ?_ | refine r_conv rfl (wrap_u64 (by omega) (by omega)) ?_ | refine r_conv rfl (wrap_u32 (by omega) (by omega)) ?_ | refine r_remP rfl rfl (by omega) (by omega) ?_ | refine r_quoU rfl rfl (by omega) (by omega) (by omega) ?_ | refine r_quoI rfl rfl (by omega) (by omega) (by omega) ?_ | refine r_max rfl rfl ?_ | refine r_min rfl rfl ?_ | refine r_notB rfl ?_ | refine r_not rfl ?_ | refine r_eqlB rfl rfl ?_ | refine r_neqB rfl rfl ?_ | refine r_func ?_ | refine r_field rfl ?_ | refine wp_if_true rfl ?_ | refine wp_if_false rfl ?_ | refine wp_if_yes rfl (by omega) ?_ | refine wp_if_no rfl (by omega) ?_ | refine wp_cond_true rfl ?_ | refine wp_cond_false rfl ?_ | refine wp_cond_yes rfl (by omega) ?_ | refine wp_cond_no rfl (by omega) ?_ | refine r_guard_yes rfl rfl (by omega) ?_ | refine r_guard_no rfl rfl (by omega) ?_ | refine r_nilCheck rfl ?_)
    exact end2 rfl (resV_tmp (by conv => (lhs; whnf))) (resV_tmp (by conv => (lhs; whnf))) ⟨by rw [if_neg hz, tst_false hz], k⟩
theorem rnum_c {S : Nat → Prop} {w : World} {v : Value} {q : Rat} (h : RatV S w v q) :
    Gives Tryz.prog 63 [v] w fun v' w' => Ext w w' ∧ IntV S 127 .u32 w' v' q.num := by
  obtain ⟨m, b, rfl, hm, hb⟩ := h
  refine gives_of Tryz.func63 rfl rfl rfl ?_
  have k : Ext w w := .refl
  repeat (first | refine wp_seq_region ?_ | refine wp_seq_seq ?_ | refine wp_seq_bregion ?_ | refine wp_seq_bseq ?_ | refine wp_seq_skip ?_ | refine wp_region ?_ | refine r_move (by conv => (lhs; whnf)) ?_ | refine r_assign (by conv => (lhs; whnf)) ?_ | refine r_nil ?_ | refine q_then ?_ | refine wp_block_region ?_ | refine wp_block_seq ?_ | refine wp_block_cond ?_ | refine wp_block_block ?_ | refine wp_block_skip ?_ | refine wp_ret ?_ | refine q_then_ret ?_ | refine q_block_ret ?_ | refine wp_skip ?_ | refine wp_exit ?_ | refine q_then_exit ?_ | refine q_block ?_ | refine q_block_hit rfl ?_ | refine q_block_miss rfl ?_ | refine r_extract rfl rfl ?_ | refine r_len_sl rfl ?_ | refine r_len (by conv => (lhs; whnf)) (by assumption) ?_ | refine r_len_str rfl ?_ | refine r_guard_run rfl rfl ?_ | refine r_guard_skip rfl rfl rfl ?_ | refine r_guard_undef rfl rfl ?_ | refine r_pick_true rfl (by conv => (lhs; whnf)) ?_ | refine r_pick_false rfl (by conv => (lhs; whnf)) ?_ | refine r_lss rfl rfl ?_ | refine r_eql rfl rfl ?_ | refine r_neq rfl rfl ?_ | refine r_gtr rfl rfl ?_ | refine r_geq rfl rfl ?_ | refine r_leq rfl rfl ?_ | refine r_addI rfl rfl (by omega) (by omega) ?_ | refine r_subI rfl rfl (by omega) (by omega) ?_ | refine r_index_sl rfl rfl (by omega) (by omega) ?_ | refine r_index (by conv => (lhs; whnf)) rfl (by assumption) (by omega) (by omega) ?_ | refine r_conv rfl (wrap_i64 (by omega) (by omega)) ?_ | refine r_conv rfl (wrap_u64 (by omega) (by omega)) ?_ | refine r_conv rfl (wrap_u32 (by omega) (by omega)) ?_ | refine r_remP rfl rfl (by omega) (by omega) ?_ | refine r_quoU rfl rfl (by omega) (by omega) (by omega) ?_ | refine r_quoI rfl rfl (by omega) (by omega) (by omega) ?_ | refine r_max rfl rfl ?_ | refine r_min rfl rfl ?_ | refine r_notB rfl ?_ | refine r_not rfl ?_ | refine r_eqlB rfl rfl ?_ | refine r_neqB rfl rfl ?_ | refine r_func ?_ | refine r_field rfl ?_ | refine wp_if_true rfl ?_ | refine wp_if_false rfl ?_ | refine wp_if_yes rfl (by omega) ?_ | refine wp_if_no rfl (by omega) ?_ | refine wp_cond_true rfl ?_ | refine wp_cond_false rfl ?_ | refine wp_cond_yes rfl (by omega) ?_ | refine wp_cond_no rfl (by omega) ?_ | refine r_guard_yes rfl rfl (by omega) ?_ | refine r_guard_no rfl rfl (by omega) ?_ | refine r_nilCheck rfl ?_)
  refine r_box (cs := [.bool (tst (q.num < 0)), m, b]) (by conv => (lhs; whnf)) rfl ?_
  intro w_1 g1 k_1 hg1 hs_1
  have hsg1 : w.heap.size ≤ g1 := Nat.le_trans k.size hs_1
  clear hs_1
  replace hm := hm.to k_1
  replace k := k.trans k_1
  clear k_1
  repeat (first | refine wp_seq_region ?_ | refine wp_seq_seq ?_ | refine wp_seq_bregion ?_ | refine wp_seq_bseq ?_ | refine wp_seq_skip ?_ | refine wp_region ?_ | refine r_move (by conv => (lhs; whnf)) ?_ | refine r_assign (by conv => (lhs; whnf)) ?_ | refine r_nil ?_ | refine q_then ?_ | refine wp_block_region ?_ | refine wp_block_seq ?_ | refine wp_block_cond ?_ | refine wp_block_block ?_ | refine wp_block_skip ?_ | refine wp_ret ?_ | refine q_then_ret ?_ | refine q_block_ret ?_ | refine wp_skip ?_ | refine wp_exit ?_ | refine q_then_exit ?_ | refine q_block ?_ | refine q_block_hit rfl ?_ | refine q_block_miss rfl ?_ | refine r_extract rfl rfl ?_ | refine r_len_sl rfl ?_ | refine r_len (by conv => (lhs; whnf)) (by assumption) ?_ | refine r_len_str rfl ?_ | refine r_guard_run rfl rfl ?_ | refine r_guard_skip rfl rfl rfl ?_ | refine r_guard_undef rfl rfl ?_ | refine r_pick_true rfl (by conv => (lhs; whnf)) ?_ | refine r_pick_false rfl (by conv => (lhs; whnf)) ?_ | refine r_lss rfl rfl ?_ | refine r_eql rfl rfl ?_ | refine r_neq rfl rfl ?_ | refine r_gtr rfl rfl ?_ | refine r_geq rfl rfl ?_ | refine r_leq rfl rfl ?_ | refine r_addI rfl rfl (by omega) (by omega) ?_ | refine r_subI rfl rfl (by omega) (by omega) ?_ | refine r_index_sl rfl rfl (by omega) (by omega) ?_ | refine r_index (by conv => (lhs; whnf)) rfl (by assumption) (by omega) (by omega) ?_ | refine r_conv rfl (wrap_i64 (by omega) (by omega)) ?_ | refine r_conv rfl (wrap_u64 (by omega) (by omega)) ?_ | refine r_conv rfl (wrap_u32 (by omega) (by omega)) ?_ | refine r_remP rfl rfl (by omega) (by omega) ?_ | refine r_quoU rfl rfl (by omega) (by omega) (by omega) ?_ | refine r_quoI rfl rfl (by omega) (by omega) (by omega) ?_ | refine r_max rfl rfl ?_ | refine r_min rfl rfl ?_ | refine r_notB rfl ?_ | refine r_not rfl ?_ | refine r_eqlB rfl rfl ?_ | refine r_neqB rfl rfl ?_ | refine r_func ?_ | refine r_field rfl ?_ | refine wp_if_true rfl ?_ | refine wp_if_false rfl ?_ | refine wp_if_yes rfl (by omega) ?_ | refine wp_if_no rfl (by omega) ?_ | refine wp_cond_true rfl ?_ | refine wp_cond_false rfl ?_ | refine wp_cond_yes rfl (by omega) ?_ | refine wp_cond_no rfl (by omega) ?_ | refine r_guard_yes rfl rfl (by omega) ?_ | refine r_guard_no rfl rfl (by omega) ?_ | refine r_nilCheck rfl ?_)
  refine r_alloc (cs := [.bool false, .slice none 0 0]) rfl ?_
  intro w_2 g k_2 hg hs_2
  have hsg : w.heap.size ≤ g := Nat.le_trans k.size hs_2
  have ne_g1_g : g1 ≠ g := fun e => by have := hg1.lt; omega
  clear hs_2
  replace hm := hm.to k_2
  replace hg1 := hg1.to k_2
  replace k := k.trans k_2
  clear k_2
  repeat (first | refine r_load_part rfl hg1 rfl rfl ?_ | refine wp_seq_region ?_ | refine wp_seq_seq ?_ | refine wp_seq_bregion ?_ | refine wp_seq_bseq ?_ | refine wp_seq_skip ?_ | refine wp_region ?_ | refine r_move (by conv => (lhs; whnf)) ?_ | refine r_assign (by conv => (lhs; whnf)) ?_ | refine r_nil ?_ | refine q_then ?_ | refine wp_block_region ?_ | refine wp_block_seq ?_ | refine wp_block_cond ?_ | refine wp_block_block ?_ | refine wp_block_skip ?_ | refine wp_ret ?_ | refine q_then_ret ?_ | refine q_block_ret ?_ | refine wp_skip ?_ | refine wp_exit ?_ | refine q_then_exit ?_ | refine q_block ?_ | refine q_block_hit rfl ?_ | refine q_block_miss rfl ?_ | refine r_extract rfl rfl ?_ | refine r_len_sl rfl ?_ | refine r_len (by conv => (lhs; whnf)) (by assumption) ?_ | refine r_len_str rfl ?_ | refine r_guard_run rfl rfl ?_ | refine r_guard_skip rfl rfl rfl ?_ | refine r_guard_undef rfl rfl ?_ | refine r_pick_true rfl (by conv => (lhs; whnf)) ?_ | refine r_pick_false rfl (by conv => (lhs; whnf)) ?_ | refine r_lss rfl rfl ?_ | refine r_eql rfl rfl ?_ | refine r_neq rfl rfl ?_ | refine r_gtr rfl rfl ?_ | refine r_geq rfl rfl ?_ | refine r_leq rfl rfl ?_ | refine r_addI rfl rfl (by omega) (by omega) ?_ | refine r_subI rfl rfl (by omega) (by omega) ?_ | refine r_index_sl rfl rfl (by omega) (by omega) ?_ | refine r_index (by conv => (lhs; whnf)) rfl (by assumption) (by omega) (by omega) ?_ | refine r_conv rfl (wrap_i64 (by omega) (by omega)) ?_ | refine r_conv rfl (wrap_u64 (by omega) (by omega)) ?_ | refine r_conv rfl (wrap_u32 (by omega) (by omega)) ?_ | refine r_remP rfl rfl (by omega) (by omega) ?_ | refine r_quoU rfl rfl (by omega) (by omega) (by omega) ?_ | refine r_quoI rfl rfl (by omega) (by omega) (by omega) ?_ | refine r_max rfl rfl ?_ | refine r_min rfl rfl ?_ | refine r_notB rfl ?_ | refine r_not rfl ?_ | refine r_eqlB rfl rfl ?_ | refine r_neqB rfl rfl ?_ | refine r_func ?_ | refine r_field rfl ?_ | refine wp_if_true rfl ?_ | refine wp_if_false rfl ?_ | refine wp_if_yes rfl (by omega) ?_ | refine wp_if_no rfl (by omega) ?_ | refine wp_cond_true rfl ?_ | refine wp_cond_false rfl ?_ | refine wp_cond_yes rfl (by omega) ?_ | refine wp_cond_no rfl (by omega) ?_ | refine r_guard_yes rfl rfl (by omega) ?_ | refine r_guard_no rfl rfl (by omega) ?_ | refine r_nilCheck rfl ?_)
  refine r_store2 rfl rfl hg rfl hm.one ?_
  intro w_3 k_3 h_3
  replace hm := hm.wrT k_3 hg (by decide)
  replace hg1 := hg1.wr k_3 (by omega)
  replace k : Ext w w_3 := k.past k_3 hsg
  replace hg := h_3
  clear h_3 k_3
  repeat (first | refine wp_seq_region ?_ | refine wp_seq_seq ?_ | refine wp_seq_bregion ?_ | refine wp_seq_bseq ?_ | refine wp_seq_skip ?_ | refine wp_region ?_ | refine r_move (by conv => (lhs; whnf)) ?_ | refine r_assign (by conv => (lhs; whnf)) ?_ | refine r_nil ?_ | refine q_then ?_ | refine wp_block_region ?_ | refine wp_block_seq ?_ | refine wp_block_cond ?_ | refine wp_block_block ?_ | refine wp_block_skip ?_ | refine wp_ret ?_ | refine q_then_ret ?_ | refine q_block_ret ?_ | refine wp_skip ?_ | refine wp_exit ?_ | refine q_then_exit ?_ | refine q_block ?_ | refine q_block_hit rfl ?_ | refine q_block_miss rfl ?_ | refine r_extract rfl rfl ?_ | refine r_len_sl rfl ?_ | refine r_len (by conv => (lhs; whnf)) (by assumption) ?_ | refine r_len_str rfl ?_ | refine r_guard_run rfl rfl ?_ | refine r_guard_skip rfl rfl rfl ?_ | refine r_guard_undef rfl rfl ?_ | refine r_pick_true rfl (by conv => (lhs; whnf)) ?_ | refine r_pick_false rfl (by conv => (lhs; whnf)) ?_ | refine r_lss rfl rfl ?_ | refine r_eql rfl rfl ?_ | refine r_neq rfl rfl ?_ | refine r_gtr rfl rfl ?_ | refine r_geq rfl rfl ?_ | refine r_leq rfl rfl ?_ | refine r_addI rfl rfl (by omega) (by omega) ?_ | refine r_subI rfl rfl (by omega) (by omega) ?_ | refine r_index_sl rfl rfl (by omega) (by omega) ?_ | refine r_index (by conv => (lhs; whnf)) rfl (by assumption) (by omega) (by omega) ?_ | refine r_conv rfl (wrap_i64 (by omega) (by omega)) ?_ | refine r_conv rfl (wrap_u64 (by omega) (by omega)) ?_ | refine r_conv rfl (wrap_u32 (by omega) (by omega)) ?_ | refine r_remP rfl rfl (by omega) (by omega) ?_ | refine r_quoU rfl rfl (by omega) (by omega) (by omega) ?_ | refine r_quoI rfl rfl (by omega) (by omega) (by omega) ?_ | refine r_max rfl rfl ?_ | refine r_min rfl rfl ?_ | refine r_notB rfl ?_ | refine r_not rfl ?_ | refine r_eqlB rfl rfl ?_ | refine r_neqB rfl rfl ?_ | refine r_func ?_ | refine r_field rfl ?_ | refine wp_if_true rfl ?_ | refine wp_if_false rfl ?_ | refine wp_if_yes rfl (by omega) ?_ | refine wp_if_no rfl (by omega) ?_ | refine wp_cond_true rfl ?_ | refine wp_cond_false rfl ?_ | refine wp_cond_yes rfl (by omega) ?_ | refine wp_cond_no rfl (by omega) ?_ | refine r_guard_yes rfl rfl (by omega) ?_ | refine r_guard_no rfl rfl (by omega) ?_ | refine r_nilCheck rfl ?_)
  exact end1 rfl (resV_agg (by conv => (lhs; whnf)) hg rfl) ⟨k, m, rfl, hm⟩
theorem zfloor_c {S : Nat → Prop} {w : World} {v : Value} {q : Rat} (hS : Up S w) (h : QV S w v q) (hl : rl q 400000000000) :
    Gives Tryz.prog 66 [v] w fun v' w' => Ext w w' ∧ ZV S w' v' (q.num / (q.den : Int)) := by
  obtain ⟨m, b, rfl, hm, hb⟩ := h
  have hd0 : (q.den : Int) ≠ 0 := by have := q.den_pos; omega
  have hl1 : zl q.num ≤ 15999999998000 := Nat.le_trans hl.1 (by decide)
  have hl2 : zl (q.den : Int) ≤ 15999999998000 := Nat.le_trans hl.2 (by decide)
  refine gives_of Tryz.func66 rfl rfl rfl ?_
  have k : Ext w w := .refl
  repeat (first | refine wp_seq_region ?_ | refine wp_seq_seq ?_ | refine wp_seq_bregion ?_ | refine wp_seq_bseq ?_ | refine wp_seq_skip ?_ | refine wp_region ?_ | refine r_move (by conv => (lhs; whnf)) ?_ | refine r_assign (by conv => (lhs; whnf)) ?_ | refine r_nil ?_ | refine q_then ?_ | refine wp_block_region ?_ | refine wp_block_seq ?_ | refine wp_block_cond ?_ | refine wp_block_block ?_ | refine wp_block_skip ?_ | refine wp_ret ?_ | refine q_then_ret ?_ | refine q_block_ret ?_ | refine wp_skip ?_ | refine wp_exit ?_ | refine q_then_exit ?_ | refine q_block ?_ | refine q_block_hit rfl ?_ | refine q_block_miss rfl ?_ | refine r_extract rfl rfl ?_ | refine r_len_sl rfl ?_ | refine r_len (by conv => (lhs; whnf)) (by assumption) ?_ | refine r_len_str rfl ?_ | refine r_guard_run rfl rfl ?_ | refine r_guard_skip rfl rfl rfl ?_ | refine r_guard_undef rfl rfl ?_ | refine r_pick_true rfl (by conv => (lhs; whnf)) ?_ | refine r_pick_false rfl (by conv => (lhs; whnf)) ?_ | refine r_lss rfl rfl ?_ | refine r_eql rfl rfl ?_ | refine r_neq rfl rfl ?_ | refine r_gtr rfl rfl ?_ | refine r_geq rfl rfl ?_ | refine r_leq rfl rfl ?_ | refine r_addI rfl rfl (by omega) (by omega) ?_ | refine r_subI rfl rfl (by omega) (by omega) ?_ | refine r_index_sl rfl rfl (by omega) (by omega) ?_ | refine r_index (by conv => (lhs; whnf)) rfl (by assumption) (by omega) (by omega) ?_ | refine r_conv rfl (wrap_i64 (by omega) (by omega)) ?_ | refine r_conv rfl (wrap_u64 (by omega) (by omega)) ?_ | refine r_conv rfl (wrap_u32 (by omega) (by omega)) ?_ | refine r_remP rfl rfl (by omega) (by omega) ?_ | refine r_quoU rfl rfl (by omega) (by omega) (by omega) ?_ | refine r_quoI rfl rfl (by omega) (by omega) (by omega) ?_ | refine r_max rfl rfl ?_ | refine r_min rfl rfl ?_ | refine r_notB rfl ?_ | refine r_not rfl ?_ | refine r_eqlB rfl rfl ?_ | refine r_neqB rfl rfl ?_ | refine r_func ?_ | refine r_field rfl ?_ | refine wp_if_true rfl ?_ | refine wp_if_false rfl ?_ | refine wp_if_yes rfl (by omega) ?_ | refine wp_if_no rfl (by omega) ?_ | refine wp_cond_true rfl ?_ | refine wp_cond_false rfl ?_ | refine wp_cond_yes rfl (by omega) ?_ | refine wp_cond_no rfl (by omega) ?_ | refine r_guard_yes rfl rfl (by omega) ?_ | refine r_guard_no rfl rfl (by omega) ?_ | refine r_nilCheck rfl ?_)
  refine r_box (cs := [.bool (tst (q.num < 0)), m, .bool (tst ((q.den : Int) < 0)), b]) (by conv => (lhs; whnf)) rfl ?_
  intro w_1 g1 k_1 hg1 hs_1
  have hsg1 : w.heap.size ≤ g1 := Nat.le_trans k.size hs_1
  clear hs_1
  replace hS := hS.to k_1
  replace hm := hm.to k_1
  replace hb := hb.to k_1
  replace k := k.trans k_1
  clear k_1
  repeat (first | refine wp_seq_region ?_ | refine wp_seq_seq ?_ | refine wp_seq_bregion ?_ | refine wp_seq_bseq ?_ | refine wp_seq_skip ?_ | refine wp_region ?_ | refine r_move (by conv => (lhs; whnf)) ?_ | refine r_assign (by conv => (lhs; whnf)) ?_ | refine r_nil ?_ | refine q_then ?_ | refine wp_block_region ?_ | refine wp_block_seq ?_ | refine wp_block_cond ?_ | refine wp_block_block ?_ | refine wp_block_skip ?_ | refine wp_ret ?_ | refine q_then_ret ?_ | refine q_block_ret ?_ | refine wp_skip ?_ | refine wp_exit ?_ | refine q_then_exit ?_ | refine q_block ?_ | refine q_block_hit rfl ?_ | refine q_block_miss rfl ?_ | refine r_extract rfl rfl ?_ | refine r_len_sl rfl ?_ | refine r_len (by conv => (lhs; whnf)) (by assumption) ?_ | refine r_len_str rfl ?_ | refine r_guard_run rfl rfl ?_ | refine r_guard_skip rfl rfl rfl ?_ | refine r_guard_undef rfl rfl ?_ | refine r_pick_true rfl (by conv => (lhs; whnf)) ?_ | refine r_pick_false rfl (by conv => (lhs; whnf)) ?_ | refine r_lss rfl rfl ?_ | refine r_eql rfl rfl ?_ | refine r_neq rfl rfl ?_ | refine r_gtr rfl rfl ?_ | refine r_geq rfl rfl ?_ | refine r_leq rfl rfl ?_ | refine r_addI rfl rfl (by omega) (by omega) ?_ | refine r_subI rfl rfl (by omega) (by omega) ?_ | refine r_index_sl rfl rfl (by omega) (by omega) ?_ | refine r_index (by conv => (lhs; whnf)) rfl (by assumption) (by omega) (by omega) ?_ | refine r_conv rfl (wrap_i64 (by omega) (by omega)) ?_ | refine r_conv rfl (wrap_u64 (by omega) (by omega)) ?_ | refine r_conv rfl (wrap_u32 (by omega) (by omega)) ?_ | refine r_remP rfl rfl (by omega) (by omega) ?_ | refine r_quoU rfl rfl (by omega) (by omega) (by omega) ?_ | refine r_quoI rfl rfl (by omega) (by omega) (by omega) ?_ | refine r_max rfl rfl ?_ | refine r_min rfl rfl ?_ | refine r_notB rfl ?_ | refine r_not rfl ?_ | refine r_eqlB rfl rfl ?_ | refine r_neqB rfl rfl ?_ | refine r_func ?_ | refine r_field rfl ?_ | refine wp_if_true rfl ?_ | refine wp_if_false rfl ?_ | refine wp_if_yes rfl (by omega) ?_ | refine wp_if_no rfl (by omega) ?_ | refine wp_cond_true rfl ?_ | refine wp_cond_false rfl ?_ | refine wp_cond_yes rfl (by omega) ?_ | refine wp_cond_no rfl (by omega) ?_ | refine r_guard_yes rfl rfl (by omega) ?_ | refine r_guard_no rfl rfl (by omega) ?_ | refine r_nilCheck rfl ?_)
  refine r_alloc (cs := [.bool false, .slice none 0 0]) rfl ?_
  intro w_2 g k_2 hg hs_2
  have hsg : w.heap.size ≤ g := Nat.le_trans k.size hs_2
  have ne_g1_g : g1 ≠ g := fun e => by have := hg1.lt; omega
  clear hs_2
  replace hS := hS.to k_2
  replace hm := hm.to k_2
  replace hb := hb.to k_2
  replace hg1 := hg1.to k_2
  replace k := k.trans k_2
  clear k_2
  repeat (first | refine r_load_part rfl hg1 rfl rfl ?_ | refine wp_seq_region ?_ | refine wp_seq_seq ?_ | refine wp_seq_bregion ?_ | refine wp_seq_bseq ?_ | refine wp_seq_skip ?_ | refine wp_region ?_ | refine r_move (by conv => (lhs; whnf)) ?_ | refine r_assign (by conv => (lhs; whnf)) ?_ | refine r_nil ?_ | refine q_then ?_ | refine wp_block_region ?_ | refine wp_block_seq ?_ | refine wp_block_cond ?_ | refine wp_block_block ?_ | refine wp_block_skip ?_ | refine wp_ret ?_ | refine q_then_ret ?_ | refine q_block_ret ?_ | refine wp_skip ?_ | refine wp_exit ?_ | refine q_then_exit ?_ | refine q_block ?_ | refine q_block_hit rfl ?_ | refine q_block_miss rfl ?_ | refine r_extract rfl rfl ?_ | refine r_len_sl rfl ?_ | refine r_len (by conv => (lhs; whnf)) (by assumption) ?_ | refine r_len_str rfl ?_ | refine r_guard_run rfl rfl ?_ | refine r_guard_skip rfl rfl rfl ?_ | refine r_guard_undef rfl rfl ?_ | refine r_pick_true rfl (by conv => (lhs; whnf)) ?_ | refine r_pick_false rfl (by conv => (lhs; whnf)) ?_ | refine r_lss rfl rfl ?_ | refine r_eql rfl rfl ?_ | refine r_neq rfl rfl ?_ | refine r_gtr rfl rfl ?_ | refine r_geq rfl rfl ?_ | refine r_leq rfl rfl ?_ | refine r_addI rfl rfl (by omega) (by omega) ?_ | refine r_subI rfl rfl (by omega) (by omega) ?_ | refine r_index_sl rfl rfl (by omega) (by omega) ?_ | refine r_index (by conv => (lhs; whnf)) rfl (by assumption) (by omega) (by omega) ?_ | refine r_conv rfl (wrap_i64 (by omega) (by omega)) ?_ | refine r_conv rfl (wrap_u64 (by omega) (by omega)) ?_ | refine r_conv rfl (wrap_u32 (by omega) (by omega)) ?_ | refine r_remP rfl rfl (by omega) (by omega) ?_ | refine r_quoU rfl rfl (by omega) (by omega) (by omega) ?_ | refine r_quoI rfl rfl (by omega) (by omega) (by omega) ?_ | refine r_max rfl rfl ?_ | refine r_min rfl rfl ?_ | refine r_notB rfl ?_ | refine r_not rfl ?_ | refine r_eqlB rfl rfl ?_ | refine r_neqB rfl rfl ?_ | refine r_func ?_ | refine r_field rfl ?_ | refine wp_if_true rfl ?_ | refine wp_if_false rfl ?_ | refine wp_if_yes rfl (by omega) ?_ | refine wp_if_no rfl (by omega) ?_ | refine wp_cond_true rfl ?_ | refine wp_cond_false rfl ?_ | refine wp_cond_yes rfl (by omega) ?_ | refine wp_cond_no rfl (by omega) ?_ | refine r_guard_yes rfl rfl (by omega) ?_ | refine r_guard_no rfl rfl (by omega) ?_ | refine r_nilCheck rfl ?_)
  refine r_call (zdiv_c (S := S) (a := q.num) (b := (q.den : Int)) hS ⟨m, rfl, hm⟩ ⟨b, rfl, hb⟩ hl1 hl2 hd0) rfl ?_
  rintro v_3 w_3 ⟨vq, vr, rfl, k_3, ⟨mq, rfl, hmq⟩, ⟨mr, rfl, hmr⟩⟩
  replace hS := hS.to k_3
  replace hm := hm.to k_3
  replace hb := hb.to k_3
  replace hg1 := hg1.to k_3
  replace hg := hg.to k_3
  replace k := k.trans k_3
  clear k_3
  repeat (first | refine wp_seq_region ?_ | refine wp_seq_seq ?_ | refine wp_seq_bregion ?_ | refine wp_seq_bseq ?_ | refine wp_seq_skip ?_ | refine wp_region ?_ | refine r_move (by conv => (lhs; whnf)) ?_ | refine r_assign (by conv => (lhs; whnf)) ?_ | refine r_nil ?_ | refine q_then ?_ | refine wp_block_region ?_ | refine wp_block_seq ?_ | refine wp_block_cond ?_ | refine wp_block_block ?_ | refine wp_block_skip ?_ | refine wp_ret ?_ | refine q_then_ret ?_ | refine q_block_ret ?_ | refine wp_skip ?_ | refine wp_exit ?_ | refine q_then_exit ?_ | refine q_block ?_ | refine q_block_hit rfl ?_ | refine q_block_miss rfl ?_ | refine r_extract rfl rfl ?_ | refine r_len_sl rfl ?_ | refine r_len (by conv => (lhs; whnf)) (by assumption) ?_ | refine r_len_str rfl ?_ | refine r_guard_run rfl rfl ?_ | refine r_guard_skip rfl rfl rfl ?_ | refine r_guard_undef rfl rfl ?_ | refine r_pick_true rfl (by conv => (lhs; whnf)) ?_ | refine r_pick_false rfl (by conv => (lhs; whnf)) ?_ | refine r_lss rfl rfl ?_ | refine r_eql rfl rfl ?_ | refine r_neq rfl rfl ?_ | refine r_gtr rfl rfl ?_ | refine r_geq rfl rfl ?_ | refine r_leq rfl rfl ?_ | refine r_addI rfl rfl (by omega) (by omega) ?_ | refine r_subI rfl rfl (by omega) (by omega) ?_ | refine r_index_sl rfl rfl (by omega) (by omega) ?_ | refine r_index (by conv => (lhs; whnf)) rfl (by assumption) (by omega) (by omega) ?_ | refine r_conv rfl (wrap_i64 (by omega) (by omega)) ?_ | refine r_conv rfl (wrap_u64 (by omega) (by omega)) ?_ | refine r_conv rfl (wrap_u32 (by omega) (by omega)) ?_ | refine r_remP rfl rfl (by omega) (by omega) ?_ | refine r_quoU rfl rfl (by omega) (by omega) (by omega) ?_ | refine r_quoI rfl rfl (by omega) (by omega) (by omega) ?_ | refine r_max rfl rfl ?_ | refine r_min rfl rfl ?_ | refine r_notB rfl ?_ | refine r_not rfl ?_ | refine r_eqlB rfl rfl ?_ | refine r_neqB rfl rfl ?_ | refine r_func ?_ | refine r_field rfl ?_ | refine wp_if_true rfl ?_ | refine wp_if_false rfl ?_ | refine wp_if_yes rfl (by omega) ?_ | refine wp_if_no rfl (by omega) ?_ | refine wp_cond_true rfl ?_ | refine wp_cond_false rfl ?_ | refine wp_cond_yes rfl (by omega) ?_ | refine wp_cond_no rfl (by omega) ?_ | refine r_guard_yes rfl rfl (by omega) ?_ | refine r_guard_no rfl rfl (by omega) ?_ | refine r_nilCheck rfl ?_)
  refine r_new2 rfl (zs := [.bool false, .slice none 0 0]) (zs2 := [.bool false, .slice none 0 0]) (us := [.bool (tst (q.num / (q.den : Int) < 0)), mq]) (us2 := [.bool (tst (q.num % (q.den : Int) < 0)), mr]) rfl rfl (fun _ _ => rfl) (fun _ _ => rfl) rfl rfl rfl rfl (ones2 rfl hmq.one) (ones2 rfl hmr.one) ?_
  intro w_4 g3 g4 k_4 hs_4 hs2_4 ne_g3_g4 hg3 hg4
  have hsg3 : w.heap.size ≤ g3 := Nat.le_trans k.size hs_4
  have ne_g1_g3 : g1 ≠ g3 := fun e => by have := hg1.lt; omega
  have ne_g_g3 : g ≠ g3 := fun e => by have := hg.lt; omega
  have hsg4 : w.heap.size ≤ g4 := Nat.le_trans k.size hs2_4
  have ne_g1_g4 : g1 ≠ g4 := fun e => by have := hg1.lt; omega
  have ne_g_g4 : g ≠ g4 := fun e => by have := hg.lt; omega
  clear hs_4 hs2_4
  replace hS := hS.to k_4
  replace hm := hm.to k_4
  replace hb := hb.to k_4
  replace hg1 := hg1.to k_4
  replace hg := hg.to k_4
  replace hmq := hmq.to k_4
  replace hmr := hmr.to k_4
  replace k := k.trans k_4
  clear k_4
  repeat (first | refine r_load_all rfl hg3 rfl ?_ | refine wp_seq_region ?_ | refine wp_seq_seq ?_ | refine wp_seq_bregion ?_ | refine wp_seq_bseq ?_ | refine wp_seq_skip ?_ | refine wp_region ?_ | refine r_move (by conv => (lhs; whnf)) ?_ | refine r_assign (by conv => (lhs; whnf)) ?_ | refine r_nil ?_ | refine q_then ?_ | refine wp_block_region ?_ | refine wp_block_seq ?_ | refine wp_block_cond ?_ | refine wp_block_block ?_ | refine wp_block_skip ?_ | refine wp_ret ?_ | refine q_then_ret ?_ | refine q_block_ret ?_ | refine wp_skip ?_ | refine wp_exit ?_ | refine q_then_exit ?_ | refine q_block ?_ | refine q_block_hit rfl ?_ | refine q_block_miss rfl ?_ | refine r_extract rfl rfl ?_ | refine r_len_sl rfl ?_ | refine r_len (by conv => (lhs; whnf)) (by assumption) ?_ | refine r_len_str rfl ?_ | refine r_guard_run rfl rfl ?_ | refine r_guard_skip rfl rfl rfl ?_ | refine r_guard_undef rfl rfl ?_ | refine r_pick_true rfl (by conv => (lhs; whnf)) ?_ | refine r_pick_false rfl (by conv => (lhs; whnf)) ?_ | refine r_lss rfl rfl ?_ | refine r_eql rfl rfl ?_ | refine r_neq rfl rfl ?_ | refine r_gtr rfl rfl ?_ | refine r_geq rfl rfl ?_ | refine r_leq rfl rfl ?_ | refine r_addI rfl rfl (by omega) (by omega) ?_ | refine r_subI rfl rfl (by omega) (by omega) ?_ | refine r_index_sl rfl rfl (by omega) (by omega) ?_ | refine r_index (by conv => (lhs; whnf)) rfl (by assumption) (by omega) (by omega) ?_ | refine r_conv rfl (wrap_i64 (by omega) (by omega)) ?_ | refine r_conv rfl (wrap_u64 (by omega) (by omega)) ?_ | refine r_conv rfl (wrap_u32 (by omega) (by omega)) ?_ | refine r_remP rfl rfl (by omega) (by omega) ?_ | refine r_quoU rfl rfl (by omega) (by omega) (by omega) ?_ | refine r_quoI rfl rfl (by omega) (by omega) (by omega) ?_ | refine r_max rfl rfl ?_ | refine r_min rfl rfl ?_ | refine r_notB rfl ?_ | refine r_not rfl ?_ | refine r_eqlB rfl rfl ?_ | refine r_neqB rfl rfl ?_ | refine r_func ?_ | refine r_field rfl ?_ | refine wp_if_true rfl ?_ | refine wp_if_false rfl ?_ | refine wp_if_yes rfl (by omega) ?_ | refine wp_if_no rfl (by omega) ?_ | refine wp_cond_true rfl ?_ | refine wp_cond_false rfl ?_ | refine wp_cond_yes rfl (by omega) ?_ | refine wp_cond_no rfl (by omega) ?_ | refine r_guard_yes rfl rfl (by omega) ?_ | refine r_guard_no rfl rfl (by omega) ?_ | refine r_nilCheck rfl ?_)
  refine r_store2 rfl (by conv => (lhs; whnf)) hg rfl hmq.one ?_
  intro w_5 k_5 h_5
  replace hS := hS.to k_5
  replace hm := hm.wrT k_5 hg (by decide)
  replace hb := hb.wrT k_5 hg (by decide)
  replace hg1 := hg1.wr k_5 (by omega)
  replace hmq := hmq.wrT k_5 hg (by decide)
  replace hmr := hmr.wrT k_5 hg (by decide)
  replace hg3 := hg3.wr k_5 (by omega)
  replace hg4 := hg4.wr k_5 (by omega)
  replace k : Ext w w_5 := k.past k_5 hsg
  replace hg := h_5
  clear h_5 k_5
  repeat (first | refine wp_seq_region ?_ | refine wp_seq_seq ?_ | refine wp_seq_bregion ?_ | refine wp_seq_bseq ?_ | refine wp_seq_skip ?_ | refine wp_region ?_ | refine r_move (by conv => (lhs; whnf)) ?_ | refine r_assign (by conv => (lhs; whnf)) ?_ | refine r_nil ?_ | refine q_then ?_ | refine wp_block_region ?_ | refine wp_block_seq ?_ | refine wp_block_cond ?_ | refine wp_block_block ?_ | refine wp_block_skip ?_ | refine wp_ret ?_ | refine q_then_ret ?_ | refine q_block_ret ?_ | refine wp_skip ?_ | refine wp_exit ?_ | refine q_then_exit ?_ | refine q_block ?_ | refine q_block_hit rfl ?_ | refine q_block_miss rfl ?_ | refine r_extract rfl rfl ?_ | refine r_len_sl rfl ?_ | refine r_len (by conv => (lhs; whnf)) (by assumption) ?_ | refine r_len_str rfl ?_ | refine r_guard_run rfl rfl ?_ | refine r_guard_skip rfl rfl rfl ?_ | refine r_guard_undef rfl rfl ?_ | refine r_pick_true rfl (by conv => (lhs; whnf)) ?_ | refine r_pick_false rfl (by conv => (lhs; whnf)) ?_ | refine r_lss rfl rfl ?_ | refine r_eql rfl rfl ?_ | refine r_neq rfl rfl ?_ | refine r_gtr rfl rfl ?_ | refine r_geq rfl rfl ?_ | refine r_leq rfl rfl ?_ | refine r_addI rfl rfl (by omega) (by omega) ?_ | refine r_subI rfl rfl (by omega) (by omega) ?_ | refine r_index_sl rfl rfl (by omega) (by omega) ?_ | refine r_index (by conv => (lhs; whnf)) rfl (by assumption) (by omega) (by omega) ?_ | refine r_conv rfl (wrap_i64 (by omega) (by omega)) ?_ | refine r_conv rfl (wrap_u64 (by omega) (by omega)) ?_ | refine r_conv rfl (wrap_u32 (by omega) (by omega)) ?_ | refine r_remP rfl rfl (by omega) (by omega) ?_ | refine r_quoU rfl rfl (by omega) (by omega) (by omega) ?_ | refine r_quoI rfl rfl (by omega) (by omega) (by omega) ?_ | refine r_max rfl rfl ?_ | refine r_min rfl rfl ?_ | refine r_notB rfl ?_ | refine r_not rfl ?_ | refine r_eqlB rfl rfl ?_ | refine r_neqB rfl rfl ?_ | refine r_func ?_ | refine r_field rfl ?_ | refine wp_if_true rfl ?_ | refine wp_if_false rfl ?_ | refine wp_if_yes rfl (by omega) ?_ | refine wp_if_no rfl (by omega) ?_ | refine wp_cond_true rfl ?_ | refine wp_cond_false rfl ?_ | refine wp_cond_yes rfl (by omega) ?_ | refine wp_cond_no rfl (by omega) ?_ | refine r_guard_yes rfl rfl (by omega) ?_ | refine r_guard_no rfl rfl (by omega) ?_ | refine r_nilCheck rfl ?_)
  exact end1 rfl (resV_agg (by conv => (lhs; whnf)) hg rfl) ⟨k, mq, rfl, hmq⟩
end Go.Proofs.YtpmnjjmngogkkaaGreatDoor
end

section
set_option linter.unusedVariables false
set_option linter.unusedSimpArgs false
namespace Go.Proofs.YtpmnjjmngogkkaaGreatDoor
open Go Go.RowKit
/-- A part of a value. -/
inductive Ch where
  | val (x : Value)                     -- one cell, not looked into
  | ag (n : Nat) (x : Value)            -- a struct or an array of n cells, not looked into
  | int (k : IntKind) (z : Int)
  | lit (k : IntKind) (z : Int)         -- a numeral
  | bb (x : Bool)
  | tp (p : Prop)
  | ptr (b o : Nat)                     -- a pointer into a block of the call's own
  | fn (g : FuncId) (cap : List (Nat ⊕ Value))
  | sl (x : Value) (m : Nat)            -- a slice, of which the length is known
  | str (l : List UInt8)
  | win (b o m c : Nat)                 -- a slice of a block of the call's own
def capDen (β : Nat → Nat) : Nat ⊕ Value → Value
  | .inl b => .pointer (some ⟨β b, 0, none⟩)
  | .inr x => x
noncomputable def Ch.den (β : Nat → Nat) : Ch → Value
  | .val x => x
  | .ag _ x => x
  | .int k z => .int k z
  | .lit k z => .int k z
  | .bb x => .bool x
  | .tp p => .bool (tst p)
  | .ptr b o => .pointer (some ⟨β b, o, none⟩)
  | .fn g cap => .func (.func g) #[] (cap.map (capDen β)).toArray
  | .sl x _ => x
  | .str l => strV l
  | .win b o m c => .slice (some ⟨β b, o, none⟩) m c
noncomputable def Ch.cells (β : Nat → Nat) : Ch → List Value
  | .ag _ x => x.cells.toList
  | c => [c.den β]
def Ch.size : Ch → Nat
  | .ag n _ => n
  | _ => 1
def Ch.Ok (m : Nat) : Ch → Prop
  | .val x => x.oneCell' = true
  | .ag n x => ∃ cs : List Value, x = .agg cs.toArray ∧ cs.length = n ∧ ∀ u ∈ cs, u.oneCell' = true
  | .ptr b _ => b < m
  | .fn _ cap => ∀ b, Sum.inl b ∈ cap → b < m
  | .sl x l => ∃ a c, x = .slice a l c ∧ l ≤ c
  | .win b _ _ _ => b < m
  | _ => True
noncomputable def cellsL (β : Nat → Nat) (l : List Ch) : List Value := l.flatMap (Ch.cells β)
def sizeL : List Ch → Nat
  | [] => 0
  | c :: r => c.size + sizeL r
inductive SV where
  | one (c : Ch)
  | agg (l : List Ch)
  | tup (l : List (Bool × List Ch))
  | und
noncomputable def partDen (β : Nat → Nat) : Bool × List Ch → Value
  | (true, l) => .agg (cellsL β l).toArray
  | (false, c :: _) => c.den β
  | (false, []) => undef
noncomputable def SV.den (β : Nat → Nat) : SV → Value
  | .one c => c.den β
  | .agg l => .agg (cellsL β l).toArray
  | .tup l => .tuple (l.map (partDen β)).toArray
  | .und => undef
def SV.Ok (m : Nat) : SV → Prop
  | .one c => c.Ok m
  | .agg l => ∀ c ∈ l, c.Ok m
  | .tup l => ∀ p ∈ l, ∀ c ∈ p.2, c.Ok m
  | .und => True
def SV.chunks : SV → Option (List Ch)
  | .one c => some [c]
  | .agg l => some l
  | _ => none
section
variable {m m' : Nat} {β β' : Nat → Nat}
theorem Ch.Ok.le {c : Ch} (h : c.Ok m) (hm : m ≤ m') : c.Ok m' := by
  cases c with
  | ptr b o => exact Nat.lt_of_lt_of_le h hm
  | fn g cap => exact fun b hb => Nat.lt_of_lt_of_le (h b hb) hm
  | win b o m c => exact Nat.lt_of_lt_of_le h hm
  | _ => exact h
theorem SV.Ok.le {s : SV} (h : s.Ok m) (hm : m ≤ m') : s.Ok m' := by
  cases s with
  | one c => exact Ch.Ok.le (c := c) h hm
  | agg l => exact fun c hc => (h c hc).le hm
  | tup l => exact fun p hp c hc => (h p hp c hc).le hm
  | und => trivial
theorem Ch.cells_ok {c : Ch} (h : c.Ok m) : (c.cells β).length = c.size ∧ ∀ u ∈ c.cells β, u.oneCell' = true := by
  cases c with
  | val x => exact ⟨rfl, fun u hu => by rw [List.mem_singleton.1 hu]; exact h⟩
  | ag n x =>
    obtain ⟨cs, rfl, hl, h1⟩ := h
    exact ⟨by simpa [Ch.cells, Value.cells, Ch.size] using hl, fun u hu => h1 u (by simpa [Ch.cells, Value.cells] using hu)⟩
  | sl x l =>
    obtain ⟨a, c, rfl, _⟩ := h
    exact ⟨rfl, fun u hu => by rw [List.mem_singleton.1 hu]; rfl⟩
  | _ => exact ⟨rfl, fun u hu => by rw [List.mem_singleton.1 hu]; rfl⟩
theorem Ch.cells_den {c : Ch} (h : c.Ok m) : (c.den β).cells = (c.cells β).toArray := by
  cases c with
  | val x => exact cells_one h
  | ag n x => obtain ⟨cs, rfl, hl, h1⟩ := h; simp [Ch.den, Ch.cells]
  | sl x l => obtain ⟨a, c, rfl, _⟩ := h; rfl
  | _ => rfl
theorem Ch.den_congr {c : Ch} (hb : ∀ i, i < m → β i = β' i) (h : c.Ok m) : c.den β = c.den β' := by
  cases c with
  | ptr b o => simp only [Ch.den]; rw [hb b h]
  | fn g cap =>
    simp only [Ch.den]
    congr 2
    refine List.map_congr_left fun x hx => ?_
    cases x with
    | inl b => simp only [capDen]; rw [hb b (h b hx)]
    | inr x => rfl
  | win b o n c => simp only [Ch.den]; rw [hb b h]
  | _ => rfl
theorem Ch.cells_congr {c : Ch} (hb : ∀ i, i < m → β i = β' i) (h : c.Ok m) : c.cells β = c.cells β' := by
  cases c with
  | ag n x => rfl
  | _ => exact congrArg (fun x => [x]) (Ch.den_congr hb h)
theorem cellsL_congr {l : List Ch} (hb : ∀ i, i < m → β i = β' i) (h : ∀ c ∈ l, c.Ok m) : cellsL β l = cellsL β' l := by
  induction l with
  | nil => rfl
  | cons c r ih =>
    simp only [cellsL, List.flatMap_cons] at ih ⊢
    rw [Ch.cells_congr hb (h c (List.mem_cons_self ..)), ih fun c hc => h c (List.mem_cons_of_mem _ hc)]
theorem SV.den_congr {s : SV} (hb : ∀ i, i < m → β i = β' i) (h : s.Ok m) : s.den β = s.den β' := by
  cases s with
  | one c => exact Ch.den_congr hb h
  | agg l => simp only [SV.den]; rw [cellsL_congr hb h]
  | tup l =>
    simp only [SV.den]
    congr 2
    refine List.map_congr_left fun p hp => ?_
    have h1 := h p hp
    obtain ⟨g, l⟩ := p
    cases g with
    | true => simp only [partDen]; rw [cellsL_congr hb h1]
    | false =>
      cases l with
      | nil => rfl
      | cons c r => exact Ch.den_congr hb (h1 c (List.mem_cons_self ..))
  | und => rfl
theorem cellsL_len {l : List Ch} (h : ∀ c ∈ l, c.Ok m) : (cellsL β l).length = sizeL l := by
  induction l with
  | nil => rfl
  | cons c r ih =>
    have h1 := (Ch.cells_ok (β := β) (h c (List.mem_cons_self ..))).1
    have h2 := ih fun c hc => h c (List.mem_cons_of_mem _ hc)
    simp only [cellsL, List.flatMap_cons, List.length_append, sizeL] at h2 ⊢
    omega
theorem cellsL_one {l : List Ch} (h : ∀ c ∈ l, c.Ok m) : ∀ u ∈ cellsL β l, u.oneCell' = true := by
  intro u hu
  obtain ⟨c, hc, hu⟩ := List.mem_flatMap.1 hu
  exact (Ch.cells_ok (h c hc)).2 u hu
theorem SV.chunks_ok {s : SV} {l : List Ch} (h : s.chunks = some l) (ok : s.Ok m) : (s.den β).cells = (cellsL β l).toArray ∧ ∀ c ∈ l, c.Ok m := by
  cases s with
  | one c =>
    simp only [SV.chunks, Option.some.injEq] at h
    subst h
    exact ⟨by simp only [SV.den, cellsL, List.flatMap_cons, List.flatMap_nil, List.append_nil]; exact Ch.cells_den ok, fun c hc => by rw [List.mem_singleton.1 hc]; exact ok⟩
  | agg l' =>
    simp only [SV.chunks, Option.some.injEq] at h
    subst h
    exact ⟨rfl, ok⟩
  | tup l' => cases h
  | und => cases h
end
/-- Parts at a place. -/
def chTake : List Ch → Nat → Option (List Ch)
  | _, 0 => some []
  | [], _ + 1 => none
  | c :: r, s => bif Nat.ble c.size s then (chTake r (s - c.size)).map (c :: ·) else none
def ldL : List Ch → Nat → Nat → Option (List Ch)
  | l, 0, s => chTake l s
  | [], _ + 1, _ => none
  | c :: r, o, s => bif Nat.ble c.size o then ldL r (o - c.size) s else none
def chDrop : List Ch → Nat → Option (List Ch)
  | l, 0 => some l
  | [], _ + 1 => none
  | c :: r, s => bif Nat.ble c.size s then chDrop r (s - c.size) else none
def stL : List Ch → Nat → Nat → List Ch → Option (List Ch)
  | l, 0, s, new => (chDrop l s).map (new ++ ·)
  | [], _ + 1, _, _ => none
  | c :: r, o, s, new => bif Nat.ble c.size o then (stL r (o - c.size) s new).map (c :: ·) else none
def mkV : Bool → List Ch → Option SV
  | true, [.ag n x] => some (.one (.ag n x))
  | true, l => some (.agg l)
  | false, [.ag _ _] => none
  | false, [c] => some (.one c)
  | false, _ => none
section
variable {m : Nat} {β : Nat → Nat}
theorem chTake_ok : ∀ {l : List Ch} {s : Nat} {l' : List Ch}, chTake l s = some l' → (∀ c ∈ l, c.Ok m) → (cellsL β l).take s = cellsL β l' ∧ (cellsL β l').length = s ∧ ∀ c ∈ l', c.Ok m := by
  intro l
  induction l with
  | nil =>
    intro s l' h hok
    cases s with
    | zero => simp only [chTake, Option.some.injEq] at h; subst h; exact ⟨rfl, rfl, hok⟩
    | succ s => cases h
  | cons c r ih =>
    intro s l' h hok
    cases s with
    | zero => simp only [chTake, Option.some.injEq] at h; subst h; exact ⟨rfl, rfl, fun _ hc => by cases hc⟩
    | succ s =>
      simp only [chTake] at h
      cases hb : Nat.ble c.size (s + 1) with
      | false => rw [hb] at h; cases h
      | true =>
        rw [hb] at h
        have hle := Nat.le_of_ble_eq_true hb
        have hc := (Ch.cells_ok (β := β) (hok c (List.mem_cons_self ..))).1
        cases ht : chTake r (s + 1 - c.size) with
        | none => rw [ht] at h; cases h
        | some r' =>
          rw [ht] at h
          simp only [cond_true, Option.map_some, Option.some.injEq] at h
          subst h
          obtain ⟨h1, h2, h3⟩ := ih ht fun c hc => hok c (List.mem_cons_of_mem _ hc)
          refine ⟨?_, ?_, ?_⟩
          · simp only [cellsL, List.flatMap_cons] at h1 ⊢
            rw [List.take_append, hc, h1, List.take_of_length_le (by omega)]
          · simp only [cellsL, List.flatMap_cons, List.length_append] at h2 ⊢
            omega
          · intro d hd
            rcases List.mem_cons.1 hd with rfl | hd
            · exact hok _ (List.mem_cons_self ..)
            · exact h3 d hd
theorem ldL_ok : ∀ {l : List Ch} {o s : Nat} {l' : List Ch}, ldL l o s = some l' → (∀ c ∈ l, c.Ok m) →
    ((cellsL β l).drop o).take s = cellsL β l' ∧ (cellsL β l').length = s ∧ ∀ c ∈ l', c.Ok m := by
  intro l
  induction l with
  | nil =>
    intro o s l' h hok
    cases o with
    | zero => simp only [ldL] at h; simpa using chTake_ok h hok
    | succ o => cases h
  | cons c r ih =>
    intro o s l' h hok
    cases o with
    | zero => simp only [ldL] at h; simpa using chTake_ok h hok
    | succ o =>
      simp only [ldL] at h
      cases hb : Nat.ble c.size (o + 1) with
      | false => rw [hb] at h; cases h
      | true =>
        rw [hb] at h
        simp only [cond_true] at h
        have hle := Nat.le_of_ble_eq_true hb
        have hc := (Ch.cells_ok (β := β) (hok c (List.mem_cons_self ..))).1
        obtain ⟨h1, h2, h3⟩ := ih h fun c hc => hok c (List.mem_cons_of_mem _ hc)
        refine ⟨?_, h2, h3⟩
        rw [← h1]
        simp only [cellsL, List.flatMap_cons]
        rw [List.drop_append, hc, List.drop_eq_nil_of_le (by omega), List.nil_append]
theorem chDrop_ok : ∀ {l : List Ch} {s : Nat} {l' : List Ch}, chDrop l s = some l' → (∀ c ∈ l, c.Ok m) → (cellsL β l).drop s = cellsL β l' ∧ s ≤ (cellsL β l).length ∧ ∀ c ∈ l', c.Ok m := by
  intro l
  induction l with
  | nil =>
    intro s l' h hok
    cases s with
    | zero => simp only [chDrop, Option.some.injEq] at h; subst h; exact ⟨rfl, Nat.zero_le _, hok⟩
    | succ s => cases h
  | cons c r ih =>
    intro s l' h hok
    cases s with
    | zero => simp only [chDrop, Option.some.injEq] at h; subst h; exact ⟨rfl, Nat.zero_le _, hok⟩
    | succ s =>
      simp only [chDrop] at h
      cases hb : Nat.ble c.size (s + 1) with
      | false => rw [hb] at h; cases h
      | true =>
        rw [hb] at h
        simp only [cond_true] at h
        have hle := Nat.le_of_ble_eq_true hb
        have hc := (Ch.cells_ok (β := β) (hok c (List.mem_cons_self ..))).1
        obtain ⟨h1, h2, h3⟩ := ih h fun c hc => hok c (List.mem_cons_of_mem _ hc)
        refine ⟨?_, ?_, h3⟩
        · rw [← h1]
          simp only [cellsL, List.flatMap_cons]
          rw [List.drop_append, hc, List.drop_eq_nil_of_le (by omega), List.nil_append]
        · simp only [cellsL, List.flatMap_cons, List.length_append] at h2 ⊢
          omega
theorem stL_ok : ∀ {l : List Ch} {o s : Nat} {new l' : List Ch}, stL l o s new = some l' → (∀ c ∈ l, c.Ok m) → (∀ c ∈ new, c.Ok m) →
    (cellsL β l).take o ++ cellsL β new ++ (cellsL β l).drop (o + s) = cellsL β l' ∧ o + s ≤ (cellsL β l).length ∧ ∀ c ∈ l', c.Ok m := by
  have base : ∀ {l : List Ch} {s : Nat} {new l' : List Ch}, (chDrop l s).map (new ++ ·) = some l' → (∀ c ∈ l, c.Ok m) → (∀ c ∈ new, c.Ok m) →
      (cellsL β l).take 0 ++ cellsL β new ++ (cellsL β l).drop (0 + s) = cellsL β l' ∧ 0 + s ≤ (cellsL β l).length ∧ ∀ c ∈ l', c.Ok m := by
    intro l s new l' h hok hnew
    cases hd : chDrop l s with
    | none => rw [hd] at h; cases h
    | some r =>
      rw [hd] at h
      simp only [Option.map_some, Option.some.injEq] at h
      subst h
      obtain ⟨h1, h2, h3⟩ := chDrop_ok (β := β) hd hok
      refine ⟨?_, by omega, ?_⟩
      · rw [Nat.zero_add, h1]
        simp [cellsL]
      · intro c hc
        rcases List.mem_append.1 hc with h | h
        · exact hnew c h
        · exact h3 c h
  intro l
  induction l with
  | nil =>
    intro o s new l' h hok hnew
    cases o with
    | zero => exact base (by simpa only [stL] using h) hok hnew
    | succ o => cases h
  | cons c r ih =>
    intro o s new l' h hok hnew
    cases o with
    | zero => exact base (by simpa only [stL] using h) hok hnew
    | succ o =>
      simp only [stL] at h
      cases hb : Nat.ble c.size (o + 1) with
      | false => rw [hb] at h; cases h
      | true =>
        rw [hb] at h
        have hle := Nat.le_of_ble_eq_true hb
        have hc := (Ch.cells_ok (β := β) (hok c (List.mem_cons_self ..))).1
        cases hs : stL r (o + 1 - c.size) s new with
        | none => rw [hs] at h; cases h
        | some r' =>
          rw [hs] at h
          simp only [cond_true, Option.map_some, Option.some.injEq] at h
          subst h
          obtain ⟨h1, h2, h3⟩ := ih hs (fun c hc => hok c (List.mem_cons_of_mem _ hc)) hnew
          refine ⟨?_, ?_, ?_⟩
          · simp only [cellsL, List.flatMap_cons] at h1 ⊢
            rw [← h1]
            rw [List.take_append, List.drop_append, hc, List.take_of_length_le (by omega), List.drop_eq_nil_of_le (by omega), List.nil_append]
            rw [show o + 1 + s - c.size = o + 1 - c.size + s by omega]
            simp
          · simp only [cellsL, List.flatMap_cons, List.length_append] at h2 ⊢
            omega
          · intro d hd
            rcases List.mem_cons.1 hd with rfl | hd
            · exact hok _ (List.mem_cons_self ..)
            · exact h3 d hd
theorem mkV_ok {g : Bool} {l : List Ch} {s : SV} (h : mkV g l = some s) (hok : ∀ c ∈ l, c.Ok m) :
    s.Ok m ∧ (g = true → s.den β = .agg (cellsL β l).toArray) ∧ (g = false → cellsL β l = [s.den β]) := by
  unfold mkV at h
  split at h
  · simp only [Option.some.injEq] at h
    subst h
    have h1 := hok _ (List.mem_cons_self ..)
    refine ⟨h1, fun _ => ?_, fun h => by cases h⟩
    obtain ⟨cs, rfl, hl, h2⟩ := h1
    simp [SV.den, Ch.den, cellsL, Ch.cells, Value.cells]
  · simp only [Option.some.injEq] at h
    subst h
    exact ⟨hok, fun _ => rfl, fun h => by cases h⟩
  · cases h
  · rename_i c hne
    simp only [Option.some.injEq] at h
    subst h
    refine ⟨hok _ (List.mem_cons_self ..), (fun h => by cases h), fun _ => ?_⟩
    simp only [cellsL, List.flatMap_cons, List.flatMap_nil, List.append_nil, SV.den]
    cases c with
    | ag n x => exact absurd rfl (hne n x)
    | _ => rfl
  · cases h
end
end Go.Proofs.YtpmnjjmngogkkaaGreatDoor
end

section
set_option linter.unusedVariables false
set_option linter.unusedSimpArgs false
namespace Go.Proofs.YtpmnjjmngogkkaaGreatDoor
open Go Go.RowKit
/-- What is known of a type. -/
inductive TKd where
  | int (k : IntKind)
  | bool
  | str
  | slice (e : TypeId)
  | array (n : Nat) (e : TypeId)
  | struct (fs : List (Nat × Nat × Bool))     -- place, size, whether it has parts
  | iface
  | ptr (e : TypeId)
  | other
structure TI where
  size : Nat
  bytes : Nat
  agg : Bool
  zero : List Ch
  kind : TKd
abbrev Env := List (TypeId × TI)
def Env.get : Env → TypeId → Option TI
  | [], _ => none
  | (i, t) :: r, d => bif Nat.beq i d then some t else Env.get r d
def fieldsB (P : Program) : List Field → List (Nat × Nat × Bool) → Bool
  | [], [] => true
  | f :: r, p :: q => (Nat.beq f.offset p.1) && (match P.info? f.type with | some i => Nat.beq i.size p.2.1 | none => false) && (match aggOf (P.underlying f.type) with | some g => g == p.2.2 | none => false) && fieldsB P r q
  | _, _ => false
def KindOk (P : Program) (t : TypeId) : TKd → Prop
  | .int k => P.underlying t = some (.int k)
  | .bool => P.underlying t = some .bool
  | .str => P.underlying t = some .string
  | .slice e => P.underlying t = some (.slice e)
  | .array n e => P.underlying t = some (.array n e)
  | .struct fs => ∃ fl : Array Field, P.underlying t = some (.struct fl) ∧ fieldsB P fl.toList fs = true ∧
      ∀ w, (fl.mapM fun f => Prod.mk f.offset <$> sizeOf f.type : Sem _).run P w = .ok (fs.map fun p => (p.1, p.2.1)).toArray w
  | .iface => ∃ ms, P.underlying t = some (.interface ms)
  | .ptr e => P.underlying t = some (.pointer e)
  | .other => True
structure TyOk (P : Program) (t : TypeId) (ti : TI) : Prop where
  ty : ∃ z, TyI P t ti.size ti.bytes z ti.agg ∧ z.cells = (cellsL (fun _ => 0) ti.zero).toArray
  ok : ∀ c ∈ ti.zero, c.Ok 0
  kind : KindOk P t ti.kind
def EnvOk (P : Program) (E : Env) : Prop := ∀ p ∈ E, TyOk P p.1 p.2
theorem EnvOk.get {P : Program} {E : Env} (h : EnvOk P E) : ∀ {t : TypeId} {ti : TI}, E.get t = some ti → TyOk P t ti := by
  induction E with
  | nil => intro t ti h; cases h
  | cons p r ih =>
    obtain ⟨i, u⟩ := p
    intro t ti hg
    simp only [Env.get] at hg
    cases hb : Nat.beq i t with
    | true =>
      rw [hb] at hg
      simp only [cond_true, Option.some.injEq] at hg
      subst hg
      obtain rfl := Nat.eq_of_beq_eq_true hb
      exact h _ (List.mem_cons_self ..)
    | false =>
      rw [hb] at hg
      exact ih (fun p hp => h p (List.mem_cons_of_mem _ hp)) hg
theorem fieldsB_get {P : Program} : ∀ {fl : List Field} {fs : List (Nat × Nat × Bool)}, fieldsB P fl fs = true → ∀ (f : Nat) (p : Nat × Nat × Bool), fs[f]? = some p →
    ∃ fd i, fl[f]? = some fd ∧ fd.offset = p.1 ∧ P.info? fd.type = some i ∧ i.size = p.2.1 ∧ aggOf (P.underlying fd.type) = some p.2.2 := by
  intro fl
  induction fl with
  | nil =>
    intro fs h f p hp
    cases fs with
    | nil => simp at hp
    | cons q r => cases h
  | cons a r ih =>
    intro fs h f p hp
    cases fs with
    | nil => cases h
    | cons q r' =>
      simp only [fieldsB, Bool.and_eq_true] at h
      obtain ⟨⟨⟨h1, h2⟩, h3⟩, h4⟩ := h
      cases f with
      | zero =>
        simp only [List.getElem?_cons_zero, Option.some.injEq] at hp
        subst hp
        cases hi : P.info? a.type with
        | none => rw [hi] at h2; cases h2
        | some i =>
          rw [hi] at h2
          cases hg : aggOf (P.underlying a.type) with
          | none => rw [hg] at h3; cases h3
          | some g =>
            rw [hg] at h3
            exact ⟨a, i, rfl, Nat.eq_of_beq_eq_true h1, hi, Nat.eq_of_beq_eq_true h2, by rw [hg]; simpa using h3⟩
      | succ f =>
        simp only [List.getElem?_cons_succ] at hp ⊢
        exact ih h4 f p hp
/-- What the call holds of memory: blocks of its own, slices of its own, what it gave away. -/
inductive HE where
  | blk (T : TypeId) (l : List Ch)
  | row (T : TypeId) (s : Nat) (v : Value) (n : Nat) (cs : List Value)
  | gone
def look : List (Nat × SV) → Nat → Option SV
  | [], _ => none
  | (i, s) :: r, d => bif Nat.beq i d then some s else look r d
def nth : List HE → Nat → Option HE
  | [], _ => none
  | h :: _, 0 => some h
  | _ :: r, i + 1 => nth r i
def setN : List HE → Nat → HE → List HE
  | [], _, _ => []
  | _ :: r, 0, x => x :: r
  | h :: r, i + 1, x => h :: setN r i x
theorem nth_eq : ∀ (l : List HE) (i : Nat), nth l i = l[i]? := by
  intro l
  induction l with
  | nil => intro i; simp [nth]
  | cons h r ih => intro i; cases i with
    | zero => simp [nth]
    | succ i => simp [nth, ih]
theorem setN_eq : ∀ (l : List HE) (i : Nat) (x : HE), setN l i x = l.set i x := by
  intro l
  induction l with
  | nil => intro i x; simp [setN]
  | cons h r ih => intro i x; cases i with
    | zero => simp [setN]
    | succ i => simp [setN, ih]
def litCh : Value → Option Ch
  | .int k z => some (.lit k z)
  | .bool x => some (.bb x)
  | .string s => some (.str s.data.toList)
  | .slice a m c => bif Nat.ble m c then some (.sl (.slice a m c) m) else none
  | .agg _ => none
  | .tuple _ => none
  | .float k x => some (.val (.float k x))
  | .complex k x y => some (.val (.complex k x y))
  | .pointer x => some (.val (.pointer x))
  | .map x => some (.val (.map x))
  | .chan x => some (.val (.chan x))
  | .func f a b => some (.val (.func f a b))
  | .nilFunc => some (.val .nilFunc)
  | .iface t x => some (.val (.iface t x))
  | .nilIface => some (.val .nilIface)
def litL : List Value → Option (List Ch)
  | [] => some []
  | x :: r => match litCh x, litL r with | some c, some l => some (c :: l) | _, _ => none
def litV : Value → Option SV
  | .agg cs => (litL cs.toList).map .agg
  | .tuple cs => match cs.toList with | [] => some .und | _ => none
  | x => (litCh x).map .one
def opd (fr : List (Nat × SV)) : Operand → Option SV
  | .tmp t => look fr t
  | .const v => litV v
  | .global g => some (.one (.val (.pointer (some ⟨g, 0, none⟩))))
  | .func f => some (.one (.fn f []))
theorem litCh_ok {β : Nat → Nat} {m : Nat} {x : Value} {c : Ch} (h : litCh x = some c) : c.den β = x ∧ c.Ok m ∧ x.oneCell' = true := by
  cases x <;> simp only [litCh, Option.some.injEq] at h
  case string s => subst h; exact ⟨by show Value.string ⟨s.data.toList.toArray⟩ = _; simp, trivial, rfl⟩
  case slice a n k =>
    cases hb : Nat.ble n k with
    | false => rw [hb] at h; cases h
    | true =>
      rw [hb] at h
      simp only [cond_true, Option.some.injEq] at h
      subst h
      exact ⟨rfl, ⟨_, _, rfl, Nat.le_of_ble_eq_true hb⟩, rfl⟩
  case agg => cases h
  case tuple => cases h
  all_goals (subst h; exact ⟨rfl, (by first | trivial | rfl), rfl⟩)
theorem litL_ok {β : Nat → Nat} {m : Nat} : ∀ {l : List Value} {r : List Ch}, litL l = some r → cellsL β r = l ∧ ∀ c ∈ r, c.Ok m := by
  intro l
  induction l with
  | nil => intro r h; simp only [litL, Option.some.injEq] at h; subst h; exact ⟨rfl, fun _ hc => by cases hc⟩
  | cons x r ih =>
    intro q h
    simp only [litL] at h
    cases h1 : litCh x with
    | none => rw [h1] at h; cases h
    | some c =>
      cases h2 : litL r with
      | none => rw [h1, h2] at h; cases h
      | some l =>
        rw [h1, h2] at h
        simp only [Option.some.injEq] at h
        subst h
        obtain ⟨e1, e2, e3⟩ := litCh_ok (β := β) (m := m) h1
        obtain ⟨e4, e5⟩ := ih h2
        refine ⟨?_, ?_⟩
        · simp only [cellsL, List.flatMap_cons] at e4 ⊢
          rw [e4]
          have h3 := Ch.cells_den (β := β) e2
          rw [e1, cells_one e3] at h3
          have h4 := congrArg Array.toList h3
          simp only at h4
          rw [← h4]
          rfl
        · intro d hd
          rcases List.mem_cons.1 hd with rfl | hd
          · exact e2
          · exact e5 d hd
theorem litV_ok {β : Nat → Nat} {m : Nat} {x : Value} {s : SV} (h : litV x = some s) : x = s.den β ∧ s.Ok m := by
  have one : ∀ {x : Value} {s : SV}, (litCh x).map .one = some s → x = s.den β ∧ s.Ok m := by
    intro x s h
    cases h1 : litCh x with
    | none => rw [h1] at h; cases h
    | some c =>
      rw [h1] at h
      simp only [Option.map_some, Option.some.injEq] at h
      subst h
      obtain ⟨e1, e2, _⟩ := litCh_ok (β := β) (m := m) h1
      exact ⟨e1.symm, e2⟩
  cases x
  case agg cs =>
    simp only [litV] at h
    cases h1 : litL cs.toList with
    | none => rw [h1] at h; cases h
    | some l =>
      rw [h1] at h
      simp only [Option.map_some, Option.some.injEq] at h
      subst h
      obtain ⟨e1, e2⟩ := litL_ok (β := β) (m := m) h1
      exact ⟨by simp [SV.den, e1], e2⟩
  case tuple cs =>
    simp only [litV] at h
    split at h
    · rename_i h1
      simp only [Option.some.injEq] at h
      subst h
      refine ⟨?_, trivial⟩
      have : cs = #[] := by simpa using h1
      subst this
      rfl
    · cases h
  all_goals exact one h
/-- What a value is, if it is known. -/
def Kn (β : Nat → Nat) (m : Nat) (x : Option SV) (v : Value) : Prop := ∀ s, x = some s → v = s.den β ∧ s.Ok m
theorem opd_kn {β : Nat → Nat} {m : Nat} {fr : List (Nat × SV)} {ρ : Fr} {x : Operand} (h : ∀ t, x = .tmp t → Kn β m (look fr t) (ρ t)) : Kn β m (opd fr x) (ev ρ x) := by
  cases x with
  | tmp t => exact h t rfl
  | const v => intro s hs; exact litV_ok hs
  | global g => intro s hs; simp only [opd, Option.some.injEq] at hs; subst hs; exact ⟨rfl, rfl⟩
  | func f =>
    intro s hs
    simp only [opd, Option.some.injEq] at hs
    subst hs
    exact ⟨rfl, fun b hb => by cases hb⟩
/-- The range of an integer. -/
def InR : IntKind → Int → Prop
  | .i8, z => -128 ≤ z ∧ z ≤ 127
  | .i16, z => -32768 ≤ z ∧ z ≤ 32767
  | .i32, z => -2147483648 ≤ z ∧ z ≤ 2147483647
  | .i64, z => -9223372036854775808 ≤ z ∧ z ≤ 9223372036854775807
  | .u8, z => 0 ≤ z ∧ z ≤ 255
  | .u16, z => 0 ≤ z ∧ z ≤ 65535
  | .u32, z => 0 ≤ z ∧ z ≤ 4294967295
  | .u64, z => 0 ≤ z ∧ z ≤ 18446744073709551615
theorem InR.wrap {k : IntKind} {z : Int} (h : InR k z) : k.wrap z = z := by
  cases k <;> simp only [InR] at h <;> simp [IntKind.wrap, IntKind.signed, IntKind.bits] <;> omega
def AllT : List Prop → Prop
  | [] => True
  | p :: r => p ∧ AllT r
theorem allT_append {a b : List Prop} : AllT (a ++ b) ↔ AllT a ∧ AllT b := by
  induction a with
  | nil => simp [AllT]
  | cons p r ih => simp [AllT, ih, and_assoc]
inductive Eff where
  | put (s : SV) (vc : List Prop)               -- the slot gets a value
  | mk (T : TypeId) (l : List Ch) (s : SV)      -- a new block; the slot gets what points to it
  | wr (b : Nat) (l : List Ch)                  -- a block is written
def zeroL : Value → Option (List Ch)
  | .agg cs => litL cs.toList
  | x => (litCh x).map fun c => [c]
def zeroD (z : Value) : List Ch := (zeroL z).getD []
theorem zeroL_ok {β : Nat → Nat} {m : Nat} {z : Value} {l : List Ch} (h : zeroL z = some l) : z.cells = (cellsL β l).toArray ∧ ∀ c ∈ l, c.Ok m := by
  have one : ∀ {x : Value}, (litCh x).map (fun c => [c]) = some l → x.cells = (cellsL β l).toArray ∧ ∀ c ∈ l, c.Ok m := by
    intro x h
    cases h1 : litCh x with
    | none => rw [h1] at h; cases h
    | some c =>
      rw [h1] at h
      simp only [Option.map_some, Option.some.injEq] at h
      subst h
      obtain ⟨e1, e2, e3⟩ := litCh_ok (β := β) (m := m) h1
      refine ⟨?_, fun d hd => by rw [List.mem_singleton.1 hd]; exact e2⟩
      have := Ch.cells_den (β := β) e2
      rw [e1] at this
      simpa [cellsL] using this
  cases z
  case agg cs =>
    obtain ⟨e1, e2⟩ := litL_ok (β := β) (m := m) h
    exact ⟨by rw [e1]; simp [Value.cells], e2⟩
  all_goals exact one h
theorem tyOk_mk {P : Program} {t : TypeId} {s b : Nat} {z : Value} {g : Bool} {kd : TKd} (ty : TyI P t s b z g) (hz : (zeroL z).isSome = true) (hk : KindOk P t kd) : TyOk P t ⟨s, b, g, zeroD z, kd⟩ := by
  cases h : zeroL z with
  | none => rw [h] at hz; cases hz
  | some l =>
    have e : zeroD z = l := by unfold zeroD; rw [h]; rfl
    rw [e]
    exact ⟨⟨z, ty, (zeroL_ok (m := 0) h).1⟩, (zeroL_ok (β := fun _ => 0) h).2, hk⟩
theorem envOk_nil {P : Program} : EnvOk P [] := fun p hp => by cases hp
theorem envOk_cons {P : Program} {p : TypeId × TI} {E : Env} (h : TyOk P p.1 p.2) (r : EnvOk P E) : EnvOk P (p :: E) := fun q hq => by
  rcases List.mem_cons.1 hq with rfl | hq
  · exact h
  · exact r q hq
end Go.Proofs.YtpmnjjmngogkkaaGreatDoor
end

section
set_option linter.unusedVariables false
set_option linter.unusedSimpArgs false
namespace Go.Proofs.YtpmnjjmngogkkaaGreatDoor
open Go Go.RowKit
/-- Where the operation's run ends. -/
def RunV (P : Program) (ρ : Operand → Value) (o : Op) (ty : TypeId) (w : World) (v : Value) : Prop := ∀ d pos aft g, (execOp ρ ⟨d, o, ty, pos, aft, g⟩).run P w = .ok (.value v) w
section
variable {P : Program} {E : Env} {β : Nat → Nat} {m : Nat} {w : World} {ty : TypeId} {ρ : Operand → Value}
def effPick : Option SV → Option SV → Option SV → Option Eff
  | some (.one (.bb true)), x, _ => x.map fun s => .put s []
  | some (.one (.bb false)), _, y => y.map fun s => .put s []
  | _, _, _ => none
theorem put_inj {s s' : SV} {vc vc' : List Prop} (h : Eff.put s vc = Eff.put s' vc') : s = s' ∧ vc = vc' := by cases h; exact ⟨rfl, rfl⟩
theorem mapPut {x : Option SV} {s : SV} {vc : List Prop} (h : (x.map fun s => Eff.put s []) = some (.put s vc)) : x = some s := by
  cases x with
  | none => cases h
  | some y => simp only [Option.map_some, Option.some.injEq] at h; rw [(put_inj h).1]
theorem effPick_ok {c x y : Operand} {cs xs ys : Option SV} {s : SV} {vc : List Prop} (hc : Kn β m cs (ρ c)) (hx : Kn β m xs (ρ x)) (hy : Kn β m ys (ρ y)) (h : effPick cs xs ys = some (.put s vc)) :
    RunV P ρ (.pick c x y) ty w (s.den β) ∧ s.Ok m := by
  unfold effPick at h
  split at h
  · have h1 := hc _ rfl
    have h2 := hx _ (mapPut h)
    refine ⟨fun d pos aft g => ?_, h2.2⟩
    simp [execOp, h1.1, SV.den, Ch.den, asBool, h2.1]
  · have h1 := hc _ rfl
    have h2 := hy _ (mapPut h)
    refine ⟨fun d pos aft g => ?_, h2.2⟩
    simp [execOp, h1.1, SV.den, Ch.den, asBool, h2.1]
  · cases h
/-- Two values and an operator. -/
def arr (x : Ch) (p : Prop) : Option (Ch × List Prop) := some (x, [p])
def pur (x : Ch) : Option (Ch × List Prop) := some (x, [])
def litBin (op : BinOp) (k : IntKind) (a b : Int) : Option (Ch × List Prop) :=
  match op with
  | .add => pur (.lit k (k.wrap (a + b)))
  | .sub => pur (.lit k (k.wrap (a - b)))
  | .mul => pur (.lit k (k.wrap (a * b)))
  | .quo => bif decide (b = 0) then none else pur (.lit k (k.wrap (a.tdiv b)))
  | .rem => bif decide (b = 0) then none else pur (.lit k (a.tmod b))
  | .eql => pur (.bb (decide (a = b)))
  | .neq => pur (.bb (!decide (a = b)))
  | .lss => pur (.bb (decide (a < b)))
  | .leq => pur (.bb (decide (a ≤ b)))
  | .gtr => pur (.bb (decide (b < a)))
  | .geq => pur (.bb (decide (b ≤ a)))
  | _ => none
def symBin (op : BinOp) (k : IntKind) (a b : Int) : Option (Ch × List Prop) :=
  match op with
  | .add => arr (.int k (a + b)) (InR k (a + b))
  | .sub => arr (.int k (a - b)) (InR k (a - b))
  | .mul => arr (.int k (a * b)) (InR k (a * b))
  | .quo => arr (.int k (a / b)) (0 ≤ a ∧ 0 < b ∧ InR k (a / b))
  | .rem => arr (.int k (a % b)) (0 ≤ a ∧ 0 < b)
  | .eql => pur (.tp (a = b))
  | .neq => pur (.tp (a ≠ b))
  | .lss => pur (.tp (a < b))
  | .leq => pur (.tp (a ≤ b))
  | .gtr => pur (.tp (b < a))
  | .geq => pur (.tp (b ≤ a))
  | _ => none
def propOf : Ch → Option Prop
  | .bb x => some (x = true)
  | .tp p => some p
  | _ => none
def boolBin (op : BinOp) (x y : Ch) : Option (Ch × List Prop) :=
  match propOf x, propOf y with
  | some p, some q => match op with
    | .eql => pur (.tp (p ↔ q))
    | .neq => pur (.tp (¬ (p ↔ q)))
    | _ => none
  | _, _ => none
def strBin (op : BinOp) (a b : List UInt8) : Option (Ch × List Prop) :=
  match op with
  | .eql => pur (.tp (a = b))
  | .neq => pur (.tp (a ≠ b))
  | .add => arr (.str (a ++ b)) (a.length + b.length ≤ 9223372036854775807)
  | _ => none
def isBoolT (E : Env) (t : TypeId) : Bool := match E.get t with | some ti => (match ti.kind with | .bool => true | _ => false) | none => false
def binC (E : Env) (op : BinOp) (t : TypeId) : Ch → Ch → Option (Ch × List Prop)
  | .lit k a, .lit k' b => bif decide (k = k') then litBin op k a b else none
  | .lit k a, .int k' b => bif decide (k = k') then symBin op k a b else none
  | .int k a, .lit k' b => bif decide (k = k') then symBin op k a b else none
  | .int k a, .int k' b => bif decide (k = k') then symBin op k a b else none
  | .str a, .str b => strBin op a b
  | x, y => bif isBoolT E t then boolBin op x y else none
theorem litBin_ok {op : BinOp} {k : IntKind} {a b : Int} {c : Ch} {vc : List Prop} (h : litBin op k a b = some (c, vc)) :
    (binOp op 0 (.int k a) (.int k b)).run P w = .ok (c.den β) w ∧ c.Ok m ∧ (∀ t, (binOp op t (.int k a) (.int k b)) = binOp op 0 (.int k a) (.int k b)) := by
  have hb0 : ∀ {x : Option (Ch × List Prop)}, (bif decide (b = 0) then none else x) = some (c, vc) → b ≠ 0 ∧ x = some (c, vc) := by
    intro x h
    by_cases e : b = 0
    · rw [decide_eq_true e] at h; cases h
    · rw [decide_eq_false e] at h; exact ⟨e, h⟩
  cases op <;> simp only [litBin, pur, Option.some.injEq, Prod.mk.injEq] at h
  case quo =>
    obtain ⟨h1, h2⟩ := hb0 h
    simp only [Option.some.injEq, Prod.mk.injEq] at h2
    obtain ⟨rfl, rfl⟩ := h2
    exact ⟨by simp [binOp, Op.intDiv, h1, Ch.den], trivial, fun t => rfl⟩
  case rem =>
    obtain ⟨h1, h2⟩ := hb0 h
    simp only [Option.some.injEq, Prod.mk.injEq] at h2
    obtain ⟨rfl, rfl⟩ := h2
    exact ⟨by simp [binOp, Op.intDiv, h1, Ch.den], trivial, fun t => rfl⟩
  all_goals first
    | (cases h; done)
    | (obtain ⟨rfl, rfl⟩ := h
       exact ⟨by simp [binOp, Op.intArith, Op.intCmp, Ch.den]; try (first | rfl | (by_cases e : a = b <;> simp [e, bne])), trivial, fun t => rfl⟩)
theorem symBin_ok {op : BinOp} {k : IntKind} {a b : Int} {c : Ch} {vc : List Prop} (h : symBin op k a b = some (c, vc)) (hv : AllT vc) :
    (binOp op 0 (.int k a) (.int k b)).run P w = .ok (c.den β) w ∧ c.Ok m ∧ (∀ t, (binOp op t (.int k a) (.int k b)) = binOp op 0 (.int k a) (.int k b)) := by
  have e1 : (a == b) = tst (a = b) := by rw [← decide_tst, Bool.eq_iff_iff]; simp
  have e2 : (a != b) = tst (a ≠ b) := by rw [← decide_tst, Bool.eq_iff_iff]; simp
  cases op <;> simp only [symBin, pur, arr, Option.some.injEq, Prod.mk.injEq] at h
  all_goals first
    | (cases h; done)
    | skip
  case quo =>
    obtain ⟨rfl, rfl⟩ := h
    obtain ⟨⟨h0, h1, h2⟩, _⟩ := hv
    exact ⟨by simp [binOp, Op.intDiv, show b ≠ 0 by omega, Ch.den, tdiv_pos h0, h2.wrap], trivial, fun t => rfl⟩
  case rem =>
    obtain ⟨rfl, rfl⟩ := h
    obtain ⟨⟨h0, h1⟩, _⟩ := hv
    exact ⟨by simp [binOp, Op.intDiv, show b ≠ 0 by omega, Ch.den, tmod_pos h0], trivial, fun t => rfl⟩
  case add => obtain ⟨rfl, rfl⟩ := h; exact ⟨by simp [binOp, Op.intArith, Ch.den, InR.wrap hv.1], trivial, fun t => rfl⟩
  case sub => obtain ⟨rfl, rfl⟩ := h; exact ⟨by simp [binOp, Op.intArith, Ch.den, InR.wrap hv.1], trivial, fun t => rfl⟩
  case mul => obtain ⟨rfl, rfl⟩ := h; exact ⟨by simp [binOp, Op.intArith, Ch.den, InR.wrap hv.1], trivial, fun t => rfl⟩
  all_goals
    obtain ⟨rfl, rfl⟩ := h
    exact ⟨by simp [binOp, Op.intCmp, Ch.den, e1, e2, decide_tst], trivial, fun t => rfl⟩
theorem propOf_ok {c : Ch} {p : Prop} (h : propOf c = some p) : c.den β = .bool (tst p) := by
  cases c <;> simp only [propOf, Option.some.injEq] at h <;> first | (cases h; done) | skip
  case bb x => subst h; cases x; exact congrArg Value.bool (tst_false (by simp)).symm; exact congrArg Value.bool (tst_true rfl).symm
  case tp q => subst h; rfl
theorem boolBin_ok {op : BinOp} {x y c : Ch} {t : TypeId} {vc : List Prop} (ht : P.underlying t = some .bool) (h : boolBin op x y = some (c, vc)) :
    (binOp op t (x.den β) (y.den β)).run P w = .ok (c.den β) w ∧ c.Ok m ∧ (∃ u u', x.den β = .bool u ∧ y.den β = .bool u') := by
  have bt : BoolT P t := ⟨ht⟩
  unfold boolBin at h
  cases hx : propOf x with
  | none => rw [hx] at h; cases h
  | some p =>
    cases hy : propOf y with
    | none => rw [hx, hy] at h; cases h
    | some q =>
      rw [hx, hy] at h
      have e1 := propOf_ok (β := β) hx
      have e2 := propOf_ok (β := β) hy
      have e3 : (tst p == tst q) = tst (p ↔ q) := by
        by_cases hp : p <;> by_cases hq : q
        · rw [tst_true hp, tst_true hq, tst_true ⟨fun _ => hq, fun _ => hp⟩]; rfl
        · rw [tst_true hp, tst_false hq, tst_false fun h => hq (h.1 hp)]; rfl
        · rw [tst_false hp, tst_true hq, tst_false fun h => hp (h.2 hq)]; rfl
        · rw [tst_false hp, tst_false hq, tst_true ⟨fun h => (hp h).elim, fun h => (hq h).elim⟩]; rfl
      cases op <;> simp only [pur, Option.some.injEq, Prod.mk.injEq] at h <;> first | (cases h; done) | skip
      · obtain ⟨rfl, rfl⟩ := h
        rw [e1, e2]
        exact ⟨by simp [binOp, run_equalB, Ch.den, e3], trivial, _, _, rfl, rfl⟩
      · obtain ⟨rfl, rfl⟩ := h
        rw [e1, e2]
        exact ⟨by simp [binOp, run_equalB, Ch.den, e3, bne, not_tst], trivial, _, _, rfl, rfl⟩
theorem strBin_ok {op : BinOp} {a b : List UInt8} {c : Ch} {vc : List Prop} (h : strBin op a b = some (c, vc)) (hv : AllT vc) :
    (binOp op 0 (strV a) (strV b)).run P w = .ok (c.den β) w ∧ c.Ok m ∧ (∀ t, (binOp op t (strV a) (strV b)) = binOp op 0 (strV a) (strV b)) := by
  have e0 : (a == b) = tst (a = b) := by
    rw [← decide_tst, Bool.eq_iff_iff]
    simp
  cases op <;> simp only [strBin, pur, arr, Option.some.injEq, Prod.mk.injEq] at h <;> first | (cases h; done) | skip
  · obtain ⟨rfl, rfl⟩ := h
    have h1 : ¬ (((⟨a.toArray⟩ : ByteArray).size + (⟨b.toArray⟩ : ByteArray).size : Nat) : Int) > IntKind.i64.max := by
      show ¬ ((a.toArray.size + b.toArray.size : Nat) : Int) > IntKind.i64.max
      have := hv.1
      simp [IntKind.max, IntKind.signed, IntKind.bits]
      omega
    have h2 : (⟨a.toArray⟩ : ByteArray) ++ ⟨b.toArray⟩ = ⟨(a ++ b).toArray⟩ := by
      apply ByteArray.ext
      simp
    exact ⟨by simp only [binOp, Op.stringOp, if_neg h1, h2, Ch.den]; simp, trivial, fun t => rfl⟩
  · obtain ⟨rfl, rfl⟩ := h
    exact ⟨by simp [binOp, Op.stringOp, Ch.den, e0], trivial, fun t => rfl⟩
  · obtain ⟨rfl, rfl⟩ := h
    exact ⟨by simp [binOp, Op.stringOp, Ch.den, bne, e0, not_tst], trivial, fun t => rfl⟩
end
end Go.Proofs.YtpmnjjmngogkkaaGreatDoor
end

section
set_option linter.unusedVariables false
set_option linter.unusedSimpArgs false
namespace Go.Proofs.YtpmnjjmngogkkaaGreatDoor
open Go Go.RowKit
section
variable {P : Program} {E : Env} {β : Nat → Nat} {m : Nat} {w : World} {ty : TypeId} {ρ : Operand → Value}
def effBin (E : Env) (op : BinOp) (t : TypeId) : Option SV → Option SV → Option Eff
  | some (.one x), some (.one y) => (binC E op t x y).map fun r => .put (.one r.1) r.2
  | _, _ => none
theorem effBin_ok {op : BinOp} {t t' : TypeId} {x y : Operand} {xs ys : Option SV} {s : SV} {vc : List Prop} (hE : EnvOk P E) (hx : Kn β m xs (ρ x)) (hy : Kn β m ys (ρ y)) (h : effBin E op t xs ys = some (.put s vc)) (hv : AllT vc) :
    RunV P ρ (.binOp op t x y t') ty w (s.den β) ∧ s.Ok m := by
  unfold effBin at h
  split at h
  · rename_i cx cy
    have h1 := (hx _ rfl).1
    have h2 := (hy _ rfl).1
    simp only [SV.den] at h1 h2
    cases hb : binC E op t cx cy with
    | none => rw [hb] at h; cases h
    | some r =>
      obtain ⟨c, vc'⟩ := r
      rw [hb] at h
      simp only [Option.map_some, Option.some.injEq] at h
      obtain ⟨rfl, rfl⟩ := put_inj h
      unfold binC at hb
      have hk : ∀ {k k' : IntKind} {o : Option (Ch × List Prop)}, (bif decide (k = k') then o else none) = some (c, vc') → k = k' ∧ o = some (c, vc') := by
        intro k k' o h
        by_cases e : k = k'
        · rw [decide_eq_true e] at h; exact ⟨e, h⟩
        · rw [decide_eq_false e] at h; cases h
      have num : ∀ {k : IntKind} {a b : Int}, ρ x = .int k a → ρ y = .int k b → (binOp op 0 (.int k a) (.int k b)).run P w = .ok (c.den β) w ∧ c.Ok m ∧ (∀ t, (binOp op t (.int k a) (.int k b)) = binOp op 0 (.int k a) (.int k b)) →
          RunV P ρ (.binOp op t x y t') ty w ((SV.one c).den β) ∧ (SV.one c).Ok m := by
        intro k a b e1 e2 hr
        refine ⟨fun d pos aft g => ?_, hr.2.1⟩
        have e3 : (eqGuard op t x y (.int k a) (.int k b)).run P w = .ok () w := by cases op <;> rfl
        simp [execOp, e1, e2, e3, hr.2.2 t, hr.1, SV.den]
      split at hb
      · obtain ⟨hkk, hb2⟩ := hk hb; subst hkk; exact num h1 h2 (litBin_ok hb2)
      · obtain ⟨hkk, hb2⟩ := hk hb; subst hkk; exact num h1 h2 (symBin_ok hb2 hv)
      · obtain ⟨hkk, hb2⟩ := hk hb; subst hkk; exact num h1 h2 (symBin_ok hb2 hv)
      · obtain ⟨hkk, hb2⟩ := hk hb; subst hkk; exact num h1 h2 (symBin_ok hb2 hv)
      · rename_i a b
        have hr := strBin_ok (P := P) (β := β) (m := m) (w := w) hb hv
        refine ⟨fun d pos aft g => ?_, hr.2.1⟩
        simp only [Ch.den] at h1 h2
        have e3 : (eqGuard op t x y (strV a) (strV b)).run P w = .ok () w := by cases op <;> rfl
        simp [execOp, h1, h2, e3, hr.2.2 t, hr.1, SV.den]
      · unfold isBoolT at hb
        cases ht : E.get t with
        | none => rw [ht] at hb; cases hb
        | some ti =>
          simp only [ht] at hb
          have hkd := (hE.get ht).kind
          cases hk2 : ti.kind <;> simp only [hk2] at hb hkd <;> first | (cases hb; done) | skip
          simp only [cond_true] at hb
          obtain ⟨hr1, hr2, u, u', e4, e5⟩ := boolBin_ok (P := P) (β := β) (m := m) (w := w) hkd hb
          refine ⟨fun d pos aft g => ?_, hr2⟩
          have e3 : (eqGuard op t x y (ρ x) (ρ y)).run P w = .ok () w := by rw [h1, h2, e4, e5]; cases op <;> rfl
          simp [execOp, e3]
          rw [h1, h2, hr1]
          rfl
  · cases h
def effUn (op : UnOp) : Option SV → Option Eff
  | some (.one (.bb x)) => match op with | .not => some (.put (.one (.bb (!x))) []) | _ => none
  | some (.one (.tp p)) => match op with | .not => some (.put (.one (.tp (¬ p))) []) | _ => none
  | some (.one (.lit k z)) => match op with | .neg => some (.put (.one (.lit k (k.wrap (0 - z)))) []) | _ => none
  | some (.one (.int k z)) => match op with | .neg => some (.put (.one (.int k (0 - z))) [InR k (0 - z)]) | _ => none
  | _ => none
theorem effUn_ok {op : UnOp} {t : TypeId} {x : Operand} {xs : Option SV} {s : SV} {vc : List Prop} (hx : Kn β m xs (ρ x)) (h : effUn op xs = some (.put s vc)) (hv : AllT vc) :
    RunV P ρ (.unOp op t x) ty w (s.den β) ∧ s.Ok m := by
  unfold effUn at h
  split at h
  · have h1 := (hx _ rfl).1
    cases op <;> simp only [Option.some.injEq] at h <;> first | (cases h; done) | skip
    obtain ⟨rfl, rfl⟩ := put_inj h
    exact ⟨fun d pos aft g => by simp [execOp, h1, SV.den, Ch.den, Op.unary], trivial⟩
  · have h1 := (hx _ rfl).1
    cases op <;> simp only [Option.some.injEq] at h <;> first | (cases h; done) | skip
    obtain ⟨rfl, rfl⟩ := put_inj h
    exact ⟨fun d pos aft g => by simp [execOp, h1, SV.den, Ch.den, Op.unary, not_tst], trivial⟩
  · have h1 := (hx _ rfl).1
    cases op <;> simp only [Option.some.injEq] at h <;> first | (cases h; done) | skip
    obtain ⟨rfl, rfl⟩ := put_inj h
    exact ⟨fun d pos aft g => by simp [execOp, h1, SV.den, Ch.den, Op.unary, Op.intArith], trivial⟩
  · have h1 := (hx _ rfl).1
    cases op <;> simp only [Option.some.injEq] at h <;> first | (cases h; done) | skip
    obtain ⟨rfl, rfl⟩ := put_inj h
    have h2 := hv.1.wrap
    exact ⟨fun d pos aft g => by simp [execOp, h1, SV.den, Ch.den, Op.unary, Op.intArith]; simpa using h2, trivial⟩
  · cases h
def kindOf (E : Env) (t : TypeId) : TKd := match E.get t with | some ti => ti.kind | none => .other
theorem kindOf_ok {t : TypeId} (hE : EnvOk P E) : KindOk P t (kindOf E t) := by
  unfold kindOf
  cases h : E.get t with
  | none => trivial
  | some ti => exact (hE.get h).kind
def effConv (E : Env) (src dst : TypeId) : Option SV → Option Eff
  | some (.one (.lit _ z)) => match kindOf E src, kindOf E dst with | .int _, .int k => some (.put (.one (.lit k (k.wrap z))) []) | _, _ => none
  | some (.one (.int _ z)) => match kindOf E src, kindOf E dst with | .int j, .int k => bif j.signed && !k.signed then some (.put (.one (.int k (k.wrap z))) []) else some (.put (.one (.int k z)) [InR k z]) | _, _ => none
  | some (.one (.str l)) => match kindOf E src, kindOf E dst with | .str, .str => some (.put (.one (.str l)) []) | _, _ => none
  | _ => none
theorem effConv_ok {src dst : TypeId} {x : Operand} {xs : Option SV} {s : SV} {vc : List Prop} (hE : EnvOk P E) (hx : Kn β m xs (ρ x)) (h : effConv E src dst xs = some (.put s vc)) (hv : AllT vc) :
    RunV P ρ (.convert src dst x) ty w (s.den β) ∧ s.Ok m := by
  have h2 := kindOf_ok (t := src) hE
  have h3 := kindOf_ok (t := dst) hE
  unfold effConv at h
  split at h
  · have h1 := (hx _ rfl).1
    split at h <;> first | (cases h; done) | skip
    rename_i e1 e2
    rw [e1] at h2
    rw [e2] at h3
    simp only [Option.some.injEq] at h
    obtain ⟨rfl, rfl⟩ := put_inj h
    exact ⟨fun d pos aft g => by simp [execOp, h1, SV.den, Ch.den, convert, run_underlying h2, run_underlying h3, Conv.intToInt], trivial⟩
  · have h1 := (hx _ rfl).1
    split at h <;> first | (cases h; done) | skip
    rename_i j k e1 e2
    rw [e1] at h2
    rw [e2] at h3
    cases hb : (j.signed && !k.signed) with
    | true =>
      rw [hb] at h
      simp only [cond_true, Option.some.injEq] at h
      obtain ⟨rfl, rfl⟩ := put_inj h
      exact ⟨fun d pos aft g => by simp [execOp, h1, SV.den, Ch.den, convert, run_underlying h2, run_underlying h3, Conv.intToInt], trivial⟩
    | false =>
      rw [hb] at h
      simp only [cond_false, Option.some.injEq] at h
      obtain ⟨rfl, rfl⟩ := put_inj h
      exact ⟨fun d pos aft g => by simp [execOp, h1, SV.den, Ch.den, convert, run_underlying h2, run_underlying h3, Conv.intToInt, hv.1.wrap], trivial⟩
  · have h1 := (hx _ rfl).1
    split at h <;> first | (cases h; done) | skip
    rename_i e1 e2
    rw [e1] at h2
    rw [e2] at h3
    simp only [Option.some.injEq] at h
    obtain ⟨rfl, rfl⟩ := put_inj h
    exact ⟨fun d pos aft g => by simp [execOp, h1, SV.den, Ch.den, convert, run_underlying h2, run_underlying h3], trivial⟩
  · cases h
def capOf : Option SV → Option (Nat ⊕ Value)
  | some (.one (.ptr b 0)) => some (.inl b)
  | some (.one (.val x)) => some (.inr x)
  | some (.one (.sl x _)) => some (.inr x)
  | some (.one (.int k z)) => some (.inr (.int k z))
  | some (.one (.lit k z)) => some (.inr (.int k z))
  | some (.one (.str l)) => some (.inr (strV l))
  | some (.one (.ag _ x)) => some (.inr x)
  | _ => none
def capsOf : List (Option SV) → Option (List (Nat ⊕ Value))
  | [] => some []
  | x :: r => match capOf x, capsOf r with | some c, some l => some (c :: l) | _, _ => none
theorem capOf_ok {x : Option SV} {c : Nat ⊕ Value} {v : Value} (hx : Kn β m x v) (h : capOf x = some c) : v = capDen β c ∧ ∀ b, c = .inl b → b < m := by
  unfold capOf at h
  split at h <;> first | (cases h; done) | skip
  all_goals
    have h1 := hx _ rfl
    simp only [Option.some.injEq] at h
    subst h
  · exact ⟨h1.1, fun b hb => by cases hb; exact h1.2⟩
  all_goals exact ⟨h1.1, fun b hb => by cases hb⟩
theorem capsOf_ok : ∀ {xs : List (Option SV)} {vs : List Value} {cs : List (Nat ⊕ Value)}, xs.length = vs.length → (∀ i, Kn β m (xs.getD i none) (vs.getD i undef)) → capsOf xs = some cs → vs = cs.map (capDen β) ∧ ∀ b, Sum.inl b ∈ cs → b < m := by
  intro xs
  induction xs with
  | nil =>
    intro vs cs hl hk h
    simp only [capsOf, Option.some.injEq] at h
    subst h
    cases vs with
    | nil => exact ⟨rfl, fun b hb => by cases hb⟩
    | cons v r => simp at hl
  | cons x r ih =>
    intro vs cs hl hk h
    cases vs with
    | nil => simp at hl
    | cons v vr =>
      simp only [capsOf] at h
      cases h1 : capOf x with
      | none => rw [h1] at h; cases h
      | some c =>
        cases h2 : capsOf r with
        | none => rw [h1, h2] at h; cases h
        | some l =>
          rw [h1, h2] at h
          simp only [Option.some.injEq] at h
          subst h
          have h3 := capOf_ok (hk 0) h1
          have h4 := ih (by simpa using hl) (fun i => hk (i + 1)) h2
          refine ⟨?_, ?_⟩
          · have e0 : v = capDen β c := h3.1
            rw [List.map_cons, ← h4.1, ← e0]
          · intro b hb
            rcases List.mem_cons.1 hb with e | hb
            · exact h3.2 b e.symm
            · exact h4.2 b hb
def effFunc (fn : Fn) (first : Array Operand) (caps : List (Option SV)) : Option Eff :=
  match fn, first.toList with
  | .func g, [] => (capsOf caps).map fun l => .put (.one (.fn g l)) []
  | _, _ => none
theorem effFunc_ok {fn : Fn} {first cap : Array Operand} {f : Operand → Option SV} {s : SV} {vc : List Prop} (hx : ∀ x, x ∈ cap.toList → Kn β m (f x) (ρ x)) (h : effFunc fn first (cap.toList.map f) = some (.put s vc)) :
    RunV P ρ (.makeFunc fn first cap) ty w (s.den β) ∧ s.Ok m := by
  unfold effFunc at h
  split at h
  · rename_i g hf
    have hf' : first = #[] := by simpa using hf
    subst hf'
    cases hc : capsOf (cap.toList.map f) with
    | none => rw [hc] at h; cases h
    | some l =>
      rw [hc] at h
      simp only [Option.map_some, Option.some.injEq] at h
      obtain ⟨rfl, rfl⟩ := put_inj h
      have hk := capsOf_ok (β := β) (m := m) (vs := cap.toList.map ρ) (by simp) (fun i => by
        simp only [List.getD_eq_getElem?_getD, List.getElem?_map]
        cases hi : cap.toList[i]? with
        | none => intro s hs; simp at hs
        | some x => simpa using hx x (List.mem_of_getElem? hi)) hc
      refine ⟨fun d pos aft g => ?_, hk.2⟩
      have e : Array.map ρ cap = (l.map (capDen β)).toArray := by rw [← hk.1, ← Array.toList_map, Array.toArray_toList]
      simp [execOp, Instr.makeFunc, SV.den, Ch.den, e]
  · cases h
def effFieldA (E : Env) (T : TypeId) (f : Nat) : Option SV → Option Eff
  | some (.one (.ptr b o)) => match kindOf E T with
    | .struct fs => match (fs[f]? : Option (Nat × Nat × Bool)) with
      | some p => bif Nat.beq p.2.1 0 then none else some (.put (.one (.ptr b (o + p.1))) [])
      | none => none
    | _ => none
  | _ => none
theorem add_addr (g o k : Nat) : (⟨g, o, none⟩ : Addr).add k = ⟨g, o + k, none⟩ := by
  unfold Addr.add
  split <;> simp_all
theorem effFieldA_ok {T : TypeId} {f : Nat} {x : Operand} {xs : Option SV} {s : SV} {vc : List Prop} (hE : EnvOk P E) (hx : Kn β m xs (ρ x)) (h : effFieldA E T f xs = some (.put s vc)) :
    RunV P ρ (.fieldAddr T x f) ty w (s.den β) ∧ s.Ok m := by
  have h2 := kindOf_ok (t := T) hE
  unfold effFieldA at h
  split at h <;> first | (cases h; done) | skip
  rename_i b o
  have h1 := hx _ rfl
  split at h <;> first | (cases h; done) | skip
  rename_i fs e1
  rw [e1] at h2
  obtain ⟨fl, h3, h4, h5⟩ := h2
  split at h <;> first | (cases h; done) | skip
  rename_i p e2
  obtain ⟨fd, i, h6, h7, h8, h9, h10⟩ := fieldsB_get h4 f p e2
  cases hz : Nat.beq p.2.1 0 with
  | true => rw [hz] at h; cases h
  | false =>
    rw [hz] at h
    simp only [cond_false, Option.some.injEq] at h
    obtain ⟨rfl, rfl⟩ := put_inj h
    refine ⟨fun d pos aft g => ?_, h1.2⟩
    have hf : fl[f]? = some fd := by simpa using h6
    have hn : i.size ≠ 0 := by rw [h9]; intro e; rw [e] at hz; cases hz
    simp [execOp, h1.1, SV.den, Ch.den, Instr.fieldAt, run_underlying h3, hf, Instr.sureAddr, fieldPlace, sizeOf, typeInfo, h8, hn, h7, add_addr]
def effField (E : Env) (T : TypeId) (f : Nat) : Option SV → Option Eff
  | some (.agg l) => match kindOf E T with
    | .struct fs => match (fs[f]? : Option (Nat × Nat × Bool)) with
      | some p => ((ldL l p.1 p.2.1).bind (mkV p.2.2)).map fun s => .put s []
      | none => none
    | _ => none
  | _ => none
theorem size_run {t : TypeId} {i : TypeInfo} (h : P.info? t = some i) : (sizeOf t).run P w = .ok i.size w := by simp [sizeOf, typeInfo, h]
theorem agg_run {t : TypeId} {g : Bool} (h : aggOf (P.underlying t) = some g) : (isAgg t).run P w = .ok g w := by
  cases hu : P.underlying t with
  | none => rw [hu] at h; cases h
  | some d =>
    rw [hu] at h
    cases d <;> simp [aggOf] at h <;> subst h <;> simp [isAgg, run_underlying hu]
/-- A part of a value in parts. -/
theorem part_run {t : TypeId} {l l' : List Ch} {o sz : Nat} {g : Bool} {s : SV} {i : TypeInfo} (hi : P.info? t = some i) (hs : i.size = sz) (hg : aggOf (P.underlying t) = some g) (hok : ∀ c ∈ l, c.Ok m)
    (h1 : ldL l o sz = some l') (h2 : mkV g l' = some s) : (part t (cellsL β l).toArray o).run P w = .ok (s.den β) w ∧ s.Ok m := by
  obtain ⟨e1, e2, e3⟩ := ldL_ok (β := β) h1 hok
  obtain ⟨e4, e5, e6⟩ := mkV_ok (β := β) h2 e3
  refine ⟨?_, e4⟩
  cases g with
  | true =>
    have e7 : (cellsL β l).toArray.extract o (o + sz) = (cellsL β l').toArray := by
      rw [← e1]
      apply Array.toList_inj.1
      simp [List.extract_eq_take_drop]
    simp only [part, Sem.run_bind, agg_run hg, Result.andThen, size_run hi, hs, if_true, Sem.run_pure, e7, e5 rfl]
  | false =>
    have e7 := e6 rfl
    rw [e7] at e1 e2
    have e8 : (cellsL β l)[o]? = some (s.den β) := by
      have : (((cellsL β l).drop o).take sz)[0]? = some (s.den β) := by rw [e1]; rfl
      rw [List.getElem?_take] at this
      split at this
      · simpa using this
      · cases this
    simp [part, agg_run hg, e8]
theorem effField_ok {T : TypeId} {f : Nat} {x : Operand} {xs : Option SV} {s : SV} {vc : List Prop} (hE : EnvOk P E) (hx : Kn β m xs (ρ x)) (h : effField E T f xs = some (.put s vc)) :
    RunV P ρ (.field T x f) ty w (s.den β) ∧ s.Ok m := by
  have h2 := kindOf_ok (t := T) hE
  unfold effField at h
  split at h <;> first | (cases h; done) | skip
  rename_i l
  have h1 := hx _ rfl
  split at h <;> first | (cases h; done) | skip
  rename_i fs e1
  rw [e1] at h2
  obtain ⟨fl, h3, h4, h5⟩ := h2
  split at h <;> first | (cases h; done) | skip
  rename_i p e2
  obtain ⟨fd, i, h6, h7, h8, h9, h10⟩ := fieldsB_get h4 f p e2
  have h11 := mapPut h
  cases hl : ldL l p.1 p.2.1 with
  | none => rw [hl] at h11; cases h11
  | some l' =>
    rw [hl] at h11
    simp only [Option.bind_some] at h11
    obtain ⟨h12, h13⟩ := part_run (P := P) (w := w) (β := β) h8 h9 h10 h1.2 hl h11
    refine ⟨fun d pos aft g => ?_, h13⟩
    have hf : fl[f]? = some fd := by simpa using h6
    simp [execOp, h1.1, SV.den, Instr.field, run_underlying h3, hf, asAgg, h7, h12]
/-- An element's place. -/
def effIndexA (E : Env) (T : TypeId) : Option SV → Option SV → Option Eff
  | some (.one (.ptr b o)), some (.one (.lit _ z)) => match kindOf E T with
    | .array n e => match E.get e with
      | some ti => bif decide (0 ≤ z) && decide (z < n) then some (.put (.one (.ptr b (o + z.toNat * ti.size))) []) else none
      | none => none
    | _ => none
  | some (.one (.win b o n c)), some (.one (.lit _ z)) => match kindOf E T with
    | .slice e => match E.get e with
      | some ti => bif decide (0 ≤ z) && decide (z < n) then some (.put (.one (.ptr b (o + z.toNat * ti.size))) []) else none
      | none => none
    | _ => none
  | _, _ => none
theorem effIndexA_ok {T : TypeId} {x y : Operand} {xs ys : Option SV} {s : SV} {vc : List Prop} (hE : EnvOk P E) (hx : Kn β m xs (ρ x)) (hy : Kn β m ys (ρ y)) (h : effIndexA E T xs ys = some (.put s vc)) :
    RunV P ρ (.indexAddr T x y) ty w (s.den β) ∧ s.Ok m := by
  have h2 := kindOf_ok (t := T) hE
  unfold effIndexA at h
  have fin : ∀ {z : Int} {n b o : Nat} {e : TypeId} {ti : TI}, (bif decide (0 ≤ z) && decide (z < n) then some (Eff.put (.one (.ptr b (o + z.toNat * ti.size))) []) else none) = some (.put s vc) →
      (0 ≤ z ∧ z < n) ∧ s = .one (.ptr b (o + z.toNat * ti.size)) := by
    intro z n b o e ti h
    by_cases hr : 0 ≤ z ∧ z < n
    · rw [decide_eq_true hr.1, decide_eq_true hr.2] at h
      simp only [Bool.and_self, cond_true, Option.some.injEq] at h
      exact ⟨hr, (put_inj h).1.symm⟩
    · exfalso
      have : (decide (0 ≤ z) && decide (z < n)) = false := by
        rw [Bool.and_eq_false_iff, decide_eq_false_iff_not, decide_eq_false_iff_not]
        exact Decidable.not_and_iff_or_not.1 hr
      rw [this] at h
      cases h
  split at h <;> first | (cases h; done) | skip
  · have h1 := hx _ rfl
    have h3 := hy _ rfl
    split at h <;> first | (cases h; done) | skip
    rename_i e1
    rw [e1] at h2
    split at h <;> first | (cases h; done) | skip
    rename_i ti e2
    obtain ⟨zz, hty, _⟩ := (hE.get e2).ty
    obtain ⟨hr, rfl⟩ := fin (e := 0) h
    refine ⟨fun d pos aft g => ?_, h1.2⟩
    simp [execOp, h1.1, h3.1, SV.den, Ch.den, Instr.indexAt, asIntOf, run_underlying h2, Instr.sureAddr, hr.1, hr.2, hty.runSize w, add_addr]
  · have h1 := hx _ rfl
    have h3 := hy _ rfl
    split at h <;> first | (cases h; done) | skip
    rename_i e1
    rw [e1] at h2
    split at h <;> first | (cases h; done) | skip
    rename_i ti e2
    obtain ⟨zz, hty, _⟩ := (hE.get e2).ty
    obtain ⟨hr, rfl⟩ := fin (e := 0) h
    refine ⟨fun d pos aft g => ?_, h1.2⟩
    simp [execOp, h1.1, h3.1, SV.den, Ch.den, Instr.indexAt, asIntOf, run_underlying h2, Instr.sureAddr, hr.1, hr.2, hty.runSize w, add_addr]
def effIndex (E : Env) (T : TypeId) : Option SV → Option SV → Option Eff
  | some (.agg l), some (.one (.lit _ z)) => match kindOf E T with
    | .array n e => match E.get e with
      | some ti => bif decide (0 ≤ z) && decide (z < n) then ((ldL l (z.toNat * ti.size) ti.size).bind (mkV ti.agg)).map fun s => .put s [] else none
      | none => none
    | _ => none
  | _, _ => none
theorem effIndex_ok {T : TypeId} {x y : Operand} {xs ys : Option SV} {s : SV} {vc : List Prop} (hE : EnvOk P E) (hx : Kn β m xs (ρ x)) (hy : Kn β m ys (ρ y)) (h : effIndex E T xs ys = some (.put s vc)) :
    RunV P ρ (.index T x y) ty w (s.den β) ∧ s.Ok m := by
  have h2 := kindOf_ok (t := T) hE
  unfold effIndex at h
  split at h <;> first | (cases h; done) | skip
  have h1 := hx _ rfl
  have h3 := hy _ rfl
  split at h <;> first | (cases h; done) | skip
  rename_i e1
  rw [e1] at h2
  split at h <;> first | (cases h; done) | skip
  rename_i l k z _ n e _ ti e2
  obtain ⟨zz, hty, _⟩ := (hE.get e2).ty
  by_cases hr : 0 ≤ z ∧ z < n
  · rw [decide_eq_true hr.1, decide_eq_true hr.2] at h
    simp only [Bool.and_self, cond_true] at h
    have h11 := mapPut h
    cases hl : ldL l (z.toNat * ti.size) ti.size with
    | none => rw [hl] at h11; cases h11
    | some l' =>
      rw [hl] at h11
      simp only [Option.bind_some] at h11
      obtain ⟨i, hi, hi2, _⟩ := hty.ex
      obtain ⟨h12, h13⟩ := part_run (P := P) (w := w) (β := β) hi hi2 hty.aggp h1.2 hl h11
      refine ⟨fun d pos aft g => ?_, h13⟩
      simp [execOp, h1.1, h3.1, SV.den, Ch.den, Instr.index, asIntOf, run_underlying h2, hr.1, hr.2, hty.runSize w, h12]
  · exfalso
    have : (decide (0 ≤ z) && decide (z < n)) = false := by
      rw [Bool.and_eq_false_iff, decide_eq_false_iff_not, decide_eq_false_iff_not]
      exact Decidable.not_and_iff_or_not.1 hr
    rw [this] at h
    cases h
def partSV : Bool × List Ch → Option SV
  | (true, l) => some (.agg l)
  | (false, [c]) => some (.one c)
  | _ => none
def effExtract (i : Nat) : Option SV → Option Eff
  | some (.tup l) => match (l[i]? : Option (Bool × List Ch)) with | some p => (partSV p).map fun s => .put s [] | none => none
  | _ => none
theorem effExtract_ok {i : Nat} {x : Operand} {xs : Option SV} {s : SV} {vc : List Prop} (hx : Kn β m xs (ρ x)) (h : effExtract i xs = some (.put s vc)) :
    RunV P ρ (.extract x i) ty w (s.den β) ∧ s.Ok m := by
  unfold effExtract at h
  split at h <;> first | (cases h; done) | skip
  rename_i l
  have h1 := hx _ rfl
  split at h <;> first | (cases h; done) | skip
  rename_i p hp
  have h2 := mapPut h
  have hok := h1.2 p (List.mem_of_getElem? hp)
  have hd : s.den β = partDen β p ∧ s.Ok m := by
    unfold partSV at h2
    split at h2 <;> first | (cases h2; done) | skip
    · simp only [Option.some.injEq] at h2; subst h2; exact ⟨rfl, hok⟩
    · simp only [Option.some.injEq] at h2; subst h2; exact ⟨rfl, hok _ (List.mem_cons_self ..)⟩
  refine ⟨fun d pos aft g => ?_, hd.2⟩
  have h1' : ρ x = .tuple (l.map (partDen β)).toArray := h1.1
  simp [execOp, h1', Instr.extract, hp, hd.1]
def effNil : Option SV → Option Eff
  | some (.one (.ptr b o)) => some (.put (.one (.ptr b o)) [])
  | _ => none
theorem effNil_ok {x : Operand} {xs : Option SV} {s : SV} {vc : List Prop} (hx : Kn β m xs (ρ x)) (h : effNil xs = some (.put s vc)) :
    RunV P ρ (.nilCheck x) ty w (s.den β) ∧ s.Ok m := by
  unfold effNil at h
  split at h <;> first | (cases h; done) | skip
  have h1 := hx _ rfl
  simp only [Option.some.injEq] at h
  obtain ⟨rfl, rfl⟩ := put_inj h
  refine ⟨fun d pos aft g => ?_, h1.2⟩
  simp [execOp, h1.1, SV.den, Ch.den]
end
end Go.Proofs.YtpmnjjmngogkkaaGreatDoor
end

section
set_option linter.unusedVariables false
set_option linter.unusedSimpArgs false
namespace Go.Proofs.YtpmnjjmngogkkaaGreatDoor
open Go Go.RowKit
/-- Which block an entry holds. -/
def HE.mine (b : Nat) : HE → Option Nat
  | .blk _ _ => some b
  | .row _ _ v _ _ => v.ownBlock
  | .gone => none
def mineAt (β : Nat → Nat) (hp : List HE) (i : Nat) : Option Nat := (hp[i]?).bind (HE.mine (β i))
/-- Memory is as the entries say. -/
structure Mem (base : Nat) (hp : List HE) (β : Nat → Nat) (w : World) : Prop where
  blk : ∀ (i : Nat) (T : TypeId) (l : List Ch), hp[i]? = some (HE.blk T l) → Blk w (β i) T (cellsL β l) ∧ ∀ c ∈ l, c.Ok hp.length
  row : ∀ (i : Nat) (T : TypeId) (s : Nat) (v : Value) (n : Nat) (cs : List Value), hp[i]? = some (HE.row T s v n cs) → Own base T s w v n cs
  low : ∀ i k, mineAt β hp i = some k → base ≤ k ∧ k < w.heap.size
  apart : ∀ i j k, mineAt β hp i = some k → mineAt β hp j = some k → i = j
/-- What is not held by the entries. -/
def Sof (S0 : Nat → Prop) (β : Nat → Nat) (hp : List HE) : Nat → Prop := fun k => S0 k ∧ ∀ i, mineAt β hp i ≠ some k
section
variable {P : Program} {E : Env} {β : Nat → Nat} {m : Nat} {w : World} {ty : TypeId} {ρ : Operand → Value}
def effLoad (E : Env) (hp : List HE) (T : TypeId) : Option SV → Option Eff
  | some (.one (.ptr b o)) => match E.get T, nth hp b with
    | some ti, some (.blk _ l) => ((ldL l o ti.size).bind (mkV ti.agg)).map fun s => .put s []
    | _, _ => none
  | _ => none
theorem loadVar_run {T : TypeId} {ti : TI} {g o : Nat} {T' : TypeId} {l l' : List Ch} {s : SV} (hT : TyOk P T ti) (hb : Blk w g T' (cellsL β l)) (hok : ∀ c ∈ l, c.Ok m) (h1 : ldL l o ti.size = some l') (h2 : mkV ti.agg l' = some s) :
    (loadVar T ⟨g, o, none⟩).run P w = .ok (s.den β) w ∧ s.Ok m := by
  obtain ⟨e1, e2, e3⟩ := ldL_ok (β := β) h1 hok
  obtain ⟨e4, e5, e6⟩ := mkV_ok (β := β) h2 e3
  obtain ⟨z, hty, _⟩ := hT.ty
  have hcell : ∀ i, i < (cellsL β l').length → w.cell? ⟨g, o + i, none⟩ = (cellsL β l')[i]? := by
    intro i hi
    have h3 : (cellsL β l')[i]? = (cellsL β l)[o + i]? := by
      rw [← e1, List.getElem?_take, if_pos (by omega), List.getElem?_drop]
    rw [h3]
    have h4 : o + i < (cellsL β l).length := by
      have : (cellsL β l')[i]? ≠ none := by simp; omega
      rw [h3] at this
      simpa using this
    rw [List.getElem?_eq_getElem h4]
    exact hb.cell (List.getElem?_eq_getElem h4)
  refine ⟨?_, e4⟩
  cases hg : ti.agg with
  | true =>
    rw [hg] at hty
    rw [e5 hg]
    exact load_agg hty e2 hcell
  | false =>
    rw [hg] at hty
    have e7 := e6 hg
    have h5 := hcell 0 (by rw [e7]; simp)
    rw [e7] at h5
    exact load_one hty (by simpa using h5)
theorem effLoad_ok {base : Nat} {hp : List HE} {T : TypeId} {x : Operand} {xs : Option SV} {s : SV} {vc : List Prop} (hE : EnvOk P E) (hm : Mem base hp β w) (hx : Kn β m xs (ρ x)) (h : effLoad E hp T xs = some (.put s vc)) :
    (∀ d pos aft g, (execOp ρ ⟨d, .load T x, ty, pos, aft, g⟩).run P w = .ok (.value (s.den β)) w) ∧ s.Ok hp.length := by
  unfold effLoad at h
  split at h <;> first | (cases h; done) | skip
  rename_i b o
  have h1 := (hx _ rfl).1
  split at h <;> first | (cases h; done) | skip
  rename_i ti T' l e1 e2
  have h11 := mapPut h
  rw [nth_eq] at e2
  obtain ⟨hb, hok⟩ := hm.blk b T' l e2
  cases hl : ldL l o ti.size with
  | none => rw [hl] at h11; cases h11
  | some l' =>
    rw [hl] at h11
    simp only [Option.bind_some] at h11
    obtain ⟨h2, h3⟩ := loadVar_run (P := P) (hE.get e1) hb hok hl h11
    refine ⟨fun d pos aft g => ?_, h3⟩
    simp [execOp, h1, SV.den, Ch.den, Instr.loadAt, Instr.sureAddr, h2]
def effStore (E : Env) (hp : List HE) (T : TypeId) : Option SV → Option SV → Option Eff
  | some (.one (.ptr b o)), some y => match E.get T, nth hp b, y.chunks with
    | some ti, some (.blk _ l), some new => bif Nat.beq (sizeL new) ti.size then (stL l o ti.size new).map fun l' => .wr b l' else none
    | _, _, _ => none
  | _, _ => none
theorem effStore_ok {base : Nat} {hp : List HE} {T : TypeId} {x y : Operand} {xs ys : Option SV} {b : Nat} {l' : List Ch} (hE : EnvOk P E) (hm : Mem base hp β w) (hx : Kn β hp.length xs (ρ x)) (hy : Kn β hp.length ys (ρ y))
    (h : effStore E hp T xs ys = some (.wr b l')) : ∃ T' l w', hp[b]? = some (HE.blk T' l) ∧ (∀ c ∈ l', c.Ok hp.length) ∧ Wrt (β b) w w' ∧ Blk w' (β b) T' (cellsL β l') ∧
      ∀ d pos aft g, (execOp ρ ⟨d, .store T x y, ty, pos, aft, g⟩).run P w = .ok .skip w' := by
  unfold effStore at h
  split at h <;> first | (cases h; done) | skip
  rename_i b' o yv
  have h1 := (hx _ rfl).1
  have h2 := hy _ rfl
  split at h <;> first | (cases h; done) | skip
  rename_i ti T' l new e1 e2 e3
  cases hs : Nat.beq (sizeL new) ti.size with
  | false => rw [hs] at h; cases h
  | true =>
    rw [hs] at h
    simp only [cond_true] at h
    cases hst : stL l o ti.size new with
    | none => rw [hst] at h; cases h
    | some l2 =>
      rw [hst] at h
      simp only [Option.map_some, Option.some.injEq] at h
      cases h
      rw [nth_eq] at e2
      obtain ⟨hb, hok⟩ := hm.blk b T' l e2
      obtain ⟨h3, h4⟩ := SV.chunks_ok (β := β) e3 h2.2
      obtain ⟨h5, h6, h7⟩ := stL_ok (β := β) hst hok h4
      obtain ⟨z, hty, _⟩ := (hE.get e1).ty
      have hlen := cellsL_len (β := β) h4
      have hsz := Nat.eq_of_beq_eq_true hs
      have h8 := run_storeCells_at P (β b) o T' (cellsL β new) 0 (cellsL β l).toArray w hb (by simp; omega) (cellsL_one h4)
      have e9 : ((cellsL β l).toArray.toList.take (o + 0) ++ cellsL β new ++ (cellsL β l).toArray.toList.drop (o + 0 + (cellsL β new).length)).toArray = (cellsL β l').toArray := by
        rw [← h5]
        simp [hlen, hsz]
      rw [e9] at h8
      refine ⟨T', l, w.setRow (β b) (cellsL β l').toArray, e2, h7, ⟨rfl, rfl, rfl, by simp [World.setRow], fun k _ hk => setRow_other w _ k _ hk⟩, setRow_heap w _ _ _ T' (0, 0) hb, fun d pos aft g => ?_⟩
      have e10 : (cellsL β new).length = ti.size := by omega
      have h11 : ρ x = .pointer (some ⟨β b, o, none⟩) := h1
      simp [execOp, h11, h2.1, Instr.storeAt, Instr.sureAddr, storeVar, hty.runSize w, h3, e10, h8]
def effBox (T : TypeId) (k : Nat) : Option SV → Option Eff
  | some x => x.chunks.map fun l => .mk T l (.one (.ptr k 0))
  | none => none
theorem effBox_ok {T : TypeId} {k : Nat} {x : Operand} {xs : Option SV} {T' : TypeId} {l : List Ch} {s : SV} (hx : Kn β m xs (ρ x)) (h : effBox T k xs = some (.mk T' l s)) :
    T' = T ∧ s = .one (.ptr k 0) ∧ (∀ c ∈ l, c.Ok m) ∧ ∀ d pos aft g, (execOp ρ ⟨d, .box T x, ty, pos, aft, g⟩).run P w = .ok (.value (.pointer (some ⟨w.heap.size, 0, none⟩))) (w.alloc (.cells (cellsL β l).toArray T)) := by
  unfold effBox at h
  split at h <;> first | (cases h; done) | skip
  rename_i xv
  have h1 := hx _ rfl
  cases hc : xv.chunks with
  | none => rw [hc] at h; cases h
  | some l2 =>
    rw [hc] at h
    simp only [Option.map_some, Option.some.injEq] at h
    cases h
    obtain ⟨h3, h4⟩ := SV.chunks_ok (β := β) hc h1.2
    exact ⟨rfl, rfl, h4, fun d pos aft g => by simp [execOp, h1.1, Instr.box, newVar, newRow, h3]⟩
def effAlloc (E : Env) (T : TypeId) (k : Nat) : Option Eff := (E.get T).map fun ti => .mk T ti.zero (.one (.ptr k 0))
theorem effAlloc_ok {T : TypeId} {k : Nat} {T' : TypeId} {l : List Ch} {s : SV} (hE : EnvOk P E) (h : effAlloc E T k = some (.mk T' l s)) :
    T' = T ∧ s = .one (.ptr k 0) ∧ (∀ c ∈ l, c.Ok m) ∧ ∀ d pos aft g, (execOp ρ ⟨d, .alloc T, ty, pos, aft, g⟩).run P w = .ok (.value (.pointer (some ⟨w.heap.size, 0, none⟩))) (w.alloc (.cells (cellsL β l).toArray T)) := by
  unfold effAlloc at h
  cases ht : E.get T with
  | none => rw [ht] at h; cases h
  | some ti =>
    rw [ht] at h
    simp only [Option.map_some, Option.some.injEq] at h
    cases h
    have hok := (hE.get ht).ok
    obtain ⟨z, hty, hz⟩ := (hE.get ht).ty
    have e : cellsL (fun _ => 0) ti.zero = cellsL β ti.zero := cellsL_congr (m := 0) (fun i hi => absurd hi (Nat.not_lt_zero i)) hok
    rw [e] at hz
    exact ⟨rfl, rfl, fun c hc => (hok c hc).le (Nat.zero_le _), fun d pos aft g => by simp [execOp, Instr.alloc, hty.runZero w, newVar, newRow, hz]⟩
/-- Literals: parts that are put into a row of cells. -/
def fillL (pl : Nat → Option (Nat × Nat)) : List Ch → List (Nat × Option SV) → Option (List Ch)
  | l, [] => some l
  | l, (i, x) :: r => match pl i, x.bind SV.chunks with
    | some (o, sz), some new => bif Nat.beq (sizeL new) sz then (stL l o sz new).bind fun l' => fillL pl l' r else none
    | _, _ => none
theorem fold_set : ∀ (vs : List Value) (cs : Array Value) (o : Nat) (k : Nat), o + k + vs.length ≤ cs.size →
    ((vs.zipIdx k).foldl (fun cs (p : Value × Nat) => cs.setIfInBounds (o + p.2) p.1) cs).toList = cs.toList.take (o + k) ++ vs ++ cs.toList.drop (o + k + vs.length) := by
  intro vs
  induction vs with
  | nil => intro cs o k h; simp
  | cons v r ih =>
    intro cs o k h
    simp only [List.zipIdx_cons, List.foldl_cons, List.length_cons] at h ⊢
    rw [ih _ o (k + 1) (by simp; omega)]
    simp only [Array.toList_setIfInBounds]
    have h1 : (cs.toList.set (o + k) v).take (o + (k + 1)) = cs.toList.take (o + k) ++ [v] := by
      rw [show o + (k + 1) = o + k + 1 by omega, List.take_add_one, List.take_set_of_le (Nat.le_refl _), List.getElem?_set_self (by simp; omega)]
      rfl
    have h2 : (cs.toList.set (o + k) v).drop (o + (k + 1) + r.length) = cs.toList.drop (o + k + (r.length + 1)) := by
      rw [List.drop_set_of_lt (by omega)]
      congr 1
      omega
    rw [h1, h2]
    simp
theorem fillL_ok {pl : Nat → Option (Nat × Nat)} : ∀ {ps : List (Nat × Option SV)} {vs : List (Nat × Value)} {l l' : List Ch}, ps.length = vs.length → (∀ (i : Nat) (p : Nat × Option SV) (v : Nat × Value), ps[i]? = some p → vs[i]? = some v → p.1 = v.1 ∧ Kn β m p.2 v.2) →
    (∀ c ∈ l, c.Ok m) → fillL pl l ps = some l' → Instr.fill pl (cellsL β l).toArray vs = some (cellsL β l').toArray ∧ ∀ c ∈ l', c.Ok m := by
  intro ps
  induction ps with
  | nil =>
    intro vs l l' hl hk hok h
    simp only [fillL, Option.some.injEq] at h
    subst h
    cases vs with
    | nil => exact ⟨rfl, hok⟩
    | cons v r => simp at hl
  | cons p r ih =>
    intro vs l l' hl hk hok h
    obtain ⟨i, x⟩ := p
    cases vs with
    | nil => simp at hl
    | cons v vr =>
      obtain ⟨i', v⟩ := v
      obtain ⟨h1, h2⟩ := hk 0 _ _ rfl rfl
      simp only at h1 h2
      subst h1
      simp only [fillL] at h
      split at h <;> first | (cases h; done) | skip
      rename_i o sz new e1 e2
      cases hs : Nat.beq (sizeL new) sz with
      | false => rw [hs] at h; cases h
      | true =>
        rw [hs] at h
        simp only [cond_true] at h
        cases hst : stL l o sz new with
        | none => rw [hst] at h; cases h
        | some l2 =>
          rw [hst] at h
          simp only [Option.bind_some] at h
          cases x with
          | none => cases e2
          | some xv =>
            simp only [Option.bind_some] at e2
            obtain ⟨h3, h4⟩ := h2 _ rfl
            obtain ⟨h5, h6⟩ := SV.chunks_ok (β := β) e2 h4
            obtain ⟨h7, h8, h9⟩ := stL_ok (β := β) hst hok h6
            have hlen := cellsL_len (β := β) h6
            have hsz := Nat.eq_of_beq_eq_true hs
            obtain ⟨h10, h11⟩ := ih (vs := vr) (by simpa using hl) (fun j p v hp hv => hk (j + 1) p v (by simpa using hp) (by simpa using hv)) h9 h
            refine ⟨?_, h11⟩
            rw [Instr.fill]
            simp only [e1]
            rw [h3, h5]
            have hno : ((cellsL β new).toArray.size ≠ sz || decide (o + (cellsL β new).toArray.size > (cellsL β l).toArray.size)) = false := by
              simp
              omega
            rw [if_neg (by rw [hno]; simp), ← h10]
            congr 1
            apply Array.toList_inj.1
            have hf := fold_set (cellsL β new) (cellsL β l).toArray o 0 (by simp; omega)
            rw [← Array.foldl_toList]
            simp only [Array.toList_zipIdx, List.toList_toArray] at hf ⊢
            rw [hf, ← h7]
            simp
            omega
def offs (fs : List (Nat × Nat × Bool)) (i : Nat) : Option (Nat × Nat) := (fs[i]?).map fun p => (p.1, p.2.1)
def effBuild (E : Env) (T : TypeId) (ps : List (Nat × Option SV)) : Option Eff :=
  match E.get T with
  | some ti => match ti.kind with
    | .struct fs => (fillL (offs fs) ti.zero ps).map fun l => .put (.agg l) []
    | .array _ e => match E.get e with
      | some te => (fillL (fun i => some (i * te.size, te.size)) ti.zero ps).map fun l => .put (.agg l) []
      | none => none
    | _ => none
  | none => none
theorem effBuild_ok {T : TypeId} {parts : Array (Nat × Operand)} {f : Operand → Option SV} {s : SV} {vc : List Prop} (hE : EnvOk P E) (hx : ∀ p ∈ parts.toList, Kn β m (f p.2) (ρ p.2))
    (h : effBuild E T (parts.toList.map fun p => (p.1, f p.2)) = some (.put s vc)) : RunV P ρ (.build T parts) ty w (s.den β) ∧ s.Ok m := by
  unfold effBuild at h
  split at h <;> first | (cases h; done) | skip
  rename_i ti e1
  obtain ⟨z, hty, hz⟩ := (hE.get e1).ty
  have hok := (hE.get e1).ok
  have hkd := (hE.get e1).kind
  have e : cellsL (fun _ => 0) ti.zero = cellsL β ti.zero := cellsL_congr (m := 0) (fun i hi => absurd hi (Nat.not_lt_zero i)) hok
  rw [e] at hz
  have hk2 : ∀ (i : Nat) (p : Nat × Option SV) (v : Nat × Value), (parts.toList.map fun p => (p.1, f p.2))[i]? = some p → (parts.toList.map fun p => (p.1, ρ p.2))[i]? = some v → p.1 = v.1 ∧ Kn β m p.2 v.2 := by
    intro i p v hp hv
    simp only [List.getElem?_map] at hp hv
    cases hi : parts.toList[i]? with
    | none => rw [hi] at hp; cases hp
    | some q =>
      rw [hi] at hp hv
      simp only [Option.map_some, Option.some.injEq] at hp hv
      subst hp hv
      exact ⟨rfl, hx q (List.mem_of_getElem? hi)⟩
  have hok' : ∀ c ∈ ti.zero, c.Ok m := fun c hc => (hok c hc).le (Nat.zero_le _)
  split at h <;> first | (cases h; done) | skip
  · rename_i fs e2
    rw [e2] at hkd
    obtain ⟨fl, h3, h4, h5⟩ := hkd
    cases hf : fillL (offs fs) ti.zero (parts.toList.map fun p => (p.1, f p.2)) with
    | none => rw [hf] at h; cases h
    | some l =>
      rw [hf] at h
      simp only [Option.map_some, Option.some.injEq] at h
      obtain ⟨rfl, rfl⟩ := put_inj h
      obtain ⟨h6, h7⟩ := fillL_ok (β := β) (m := m) (vs := parts.toList.map fun p => (p.1, ρ p.2)) (by simp) hk2 hok' hf
      refine ⟨fun d pos aft g => ?_, h7⟩
      have h8 : Instr.fill (fun i => Option.map (fun p : Nat × Nat × Bool => (p.1, p.2.1)) fs[i]?) (cellsL β ti.zero).toArray (parts.toList.map fun p => (p.1, ρ p.2)) = some (cellsL β l).toArray := h6
      simp [execOp, Instr.build, hty.runZero w, run_underlying h3, h5, hz, h8, SV.den]
  · rename_i n e0 e2
    rw [e2] at hkd
    split at h <;> first | (cases h; done) | skip
    rename_i te e3
    obtain ⟨ze, htye, _⟩ := (hE.get e3).ty
    cases hf : fillL (fun i => some (i * te.size, te.size)) ti.zero (parts.toList.map fun p => (p.1, f p.2)) with
    | none => rw [hf] at h; cases h
    | some l =>
      rw [hf] at h
      simp only [Option.map_some, Option.some.injEq] at h
      obtain ⟨rfl, rfl⟩ := put_inj h
      obtain ⟨h6, h7⟩ := fillL_ok (β := β) (m := m) (vs := parts.toList.map fun p => (p.1, ρ p.2)) (by simp) hk2 hok' hf
      refine ⟨fun d pos aft g => ?_, h7⟩
      have hkd' : P.underlying T = some (.array n e0) := hkd
      simp [execOp, Instr.build, hty.runZero w, run_underlying hkd', htye.runSize w, hz, h6, SV.den]
end
end Go.Proofs.YtpmnjjmngogkkaaGreatDoor
end

section
set_option linter.unusedVariables false
set_option linter.unusedSimpArgs false
namespace Go.Proofs.YtpmnjjmngogkkaaGreatDoor
open Go Go.RowKit
section
variable {P : Program} {E : Env} {β : Nat → Nat} {m : Nat} {w : World} {ty : TypeId} {ρ : Operand → Value}
def rowL (sz : Nat) : Nat → List (Nat × Option SV) → Option (List Ch)
  | _, [] => some []
  | i, (j, x) :: r => match x.bind SV.chunks with
    | some new => bif Nat.beq i j && Nat.beq (sizeL new) sz then (rowL sz (i + 1) r).map (new ++ ·) else none
    | none => none
theorem rowL_ok {sz : Nat} : ∀ {ps : List (Nat × Option SV)} {vs : List (Nat × Value)} {l : List Ch} {i : Nat} {arr : Array Value}, ps.length = vs.length → (∀ (i : Nat) (p : Nat × Option SV) (v : Nat × Value), ps[i]? = some p → vs[i]? = some v → p.1 = v.1 ∧ Kn β m p.2 v.2) →
    arr.size = (i + ps.length) * sz → rowL sz i ps = some l → Instr.fill (fun i => some (i * sz, sz)) arr vs = some (arr.toList.take (i * sz) ++ cellsL β l).toArray ∧ ∀ c ∈ l, c.Ok m := by
  intro ps
  induction ps with
  | nil =>
    intro vs l i arr hl hk hz h
    simp only [rowL, Option.some.injEq] at h
    subst h
    cases vs with
    | nil =>
      refine ⟨?_, fun c hc => by cases hc⟩
      simp only [Instr.fill, cellsL, List.flatMap_nil, List.append_nil]
      congr 1
      apply Array.toList_inj.1
      simp only [List.length_nil, Nat.add_zero] at hz
      simp only [List.toList_toArray]
      rw [List.take_of_length_le (by simp; omega)]
    | cons v r => simp at hl
  | cons p r ih =>
    intro vs l i arr hl hk hz h
    obtain ⟨j, x⟩ := p
    cases vs with
    | nil => simp at hl
    | cons v vr =>
      obtain ⟨j', v⟩ := v
      obtain ⟨h1, h2⟩ := hk 0 _ _ rfl rfl
      simp only at h1 h2
      subst h1
      simp only [rowL] at h
      split at h <;> first | (cases h; done) | skip
      rename_i new e2
      cases hs : (Nat.beq i j && Nat.beq (sizeL new) sz) with
      | false => rw [hs] at h; cases h
      | true =>
        rw [hs] at h
        simp only [Bool.and_eq_true] at hs
        obtain rfl := Nat.eq_of_beq_eq_true hs.1
        have hsz := Nat.eq_of_beq_eq_true hs.2
        cases x with
        | none => cases e2
        | some xv =>
          simp only [Option.bind_some] at e2
          obtain ⟨h3, h4⟩ := h2 _ rfl
          obtain ⟨h5, h6⟩ := SV.chunks_ok (β := β) e2 h4
          have hlen := cellsL_len (β := β) h6
          cases hr : rowL sz (i + 1) r with
          | none => rw [hr] at h; cases h
          | some l2 =>
            rw [hr] at h
            simp only [cond_true, Option.map_some, Option.some.injEq] at h
            subst h
            have hz1 : arr.size = i * sz + sz + r.length * sz := by
              rw [hz, List.length_cons, Nat.add_mul, Nat.add_mul, Nat.one_mul]; omega
            have hf := fold_set (cellsL β new) arr (i * sz) 0 (by omega)
            have ih2 := ih (vs := vr) (l := l2) (i := i + 1) (arr := (arr.toList.take (i * sz) ++ cellsL β new ++ arr.toList.drop (i * sz + sz)).toArray) (by simpa using hl) (fun j p v hp hv => hk (j + 1) p v (by simpa using hp) (by simpa using hv)) (by
              simp only [List.size_toArray, List.length_append, List.length_take, List.length_drop, Array.length_toList, hlen, hsz]
              rw [show (i + 1 + r.length) * sz = i * sz + sz + r.length * sz by rw [Nat.add_mul, Nat.add_mul, Nat.one_mul]]
              omega) hr
            refine ⟨?_, ?_⟩
            · rw [Instr.fill]
              simp only
              rw [h3, h5]
              have hno : ((cellsL β new).toArray.size ≠ sz || decide (i * sz + (cellsL β new).toArray.size > arr.size)) = false := by
                simp
                omega
              rw [if_neg (by rw [hno]; simp)]
              have e3 : Array.foldl (fun cs (x : Value × Nat) => cs.setIfInBounds (i * sz + x.snd) x.fst) arr (cellsL β new).toArray.zipIdx = (arr.toList.take (i * sz) ++ cellsL β new ++ arr.toList.drop (i * sz + sz)).toArray := by
                apply Array.toList_inj.1
                rw [← Array.foldl_toList]
                simp only [Array.toList_zipIdx, List.toList_toArray] at hf ⊢
                rw [hf]
                simp [hlen, hsz]
              rw [e3, ih2.1]
              congr 2
              rw [show (i + 1) * sz = i * sz + sz by rw [Nat.add_mul, Nat.one_mul]]
              have e4 : (arr.toList.take (i * sz) ++ cellsL β new).length = i * sz + sz := by
                simp only [List.length_append, List.length_take, Array.length_toList, hlen, hsz]
                omega
              rw [List.take_append, e4, Nat.sub_self, List.take_zero, List.append_nil, List.take_of_length_le (by omega)]
              simp [cellsL]
            · intro c hc
              rcases List.mem_append.1 hc with hc | hc
              · exact h6 c hc
              · exact ih2.2 c hc
def effLit (E : Env) (T : TypeId) (n k : Nat) (ps : List (Nat × Option SV)) : Option Eff :=
  match kindOf E T with
  | .slice e => match E.get e with
    | some te => bif Nat.ble (n * te.size) 16777216 && Nat.beq ps.length n then (rowL te.size 0 ps).map fun l => .mk e l (.one (.win k 0 n n)) else none
    | none => none
  | _ => none
theorem effLit_ok {T T' : TypeId} {n k : Nat} {parts : Array (Nat × Operand)} {f : Operand → Option SV} {l : List Ch} {s : SV} (hE : EnvOk P E) (hx : ∀ p ∈ parts.toList, Kn β m (f p.2) (ρ p.2))
    (h : effLit E T n k (parts.toList.map fun p => (p.1, f p.2)) = some (.mk T' l s)) :
    s = .one (.win k 0 n n) ∧ (∀ c ∈ l, c.Ok m) ∧ ∀ d pos aft g, (execOp ρ ⟨d, .buildSlice T n parts, ty, pos, aft, g⟩).run P w = .ok (.value (.slice (some ⟨w.heap.size, 0, none⟩) n n)) (w.alloc (.cells (cellsL β l).toArray T')) := by
  have hkd := kindOf_ok (t := T) hE
  unfold effLit at h
  split at h <;> first | (cases h; done) | skip
  rename_i e e1
  rw [e1] at hkd
  split at h <;> first | (cases h; done) | skip
  rename_i te e2
  obtain ⟨z, hty, hz⟩ := (hE.get e2).ty
  cases hb : (Nat.ble (n * te.size) 16777216 && Nat.beq (parts.toList.map fun p => (p.1, f p.2)).length n) with
  | false => rw [hb] at h; cases h
  | true =>
    rw [hb] at h
    simp only [Bool.and_eq_true] at hb
    have hle := Nat.le_of_ble_eq_true hb.1
    have hlen := Nat.eq_of_beq_eq_true hb.2
    cases hr : rowL te.size 0 (parts.toList.map fun p => (p.1, f p.2)) with
    | none => rw [hr] at h; cases h
    | some l2 =>
      rw [hr] at h
      simp only [cond_true, Option.map_some, Option.some.injEq] at h
      cases h
      have hk2 : ∀ (i : Nat) (p : Nat × Option SV) (v : Nat × Value), (parts.toList.map fun p => (p.1, f p.2))[i]? = some p → (parts.toList.map fun p => (p.1, ρ p.2))[i]? = some v → p.1 = v.1 ∧ Kn β m p.2 v.2 := by
        intro i p v hp hv
        simp only [List.getElem?_map] at hp hv
        cases hi : parts.toList[i]? with
        | none => rw [hi] at hp; cases hp
        | some q =>
          rw [hi] at hp hv
          simp only [Option.map_some, Option.some.injEq] at hp hv
          subst hp hv
          exact ⟨rfl, hx q (List.mem_of_getElem? hi)⟩
      have hfill : ∀ arr : Array Value, arr.size = n * te.size → Instr.fill (fun i => some (i * te.size, te.size)) arr (parts.toList.map fun p => (p.1, ρ p.2)) = some (cellsL β l).toArray ∧ ∀ c ∈ l, c.Ok m := by
        intro arr ha
        have h1 := rowL_ok (β := β) (m := m) (vs := parts.toList.map fun p => (p.1, ρ p.2)) (arr := arr) (by simp) hk2 (by rw [hlen, ha, Nat.zero_add]) hr
        simpa using h1
      refine ⟨rfl, (hfill (Array.replicate (n * te.size) undef) (by simp)).2, fun d pos aft g => ?_⟩
      have hkd' : P.underlying T = some (.slice T') := hkd
      by_cases h0 : n * te.size = 0
      · have hf := (hfill (Array.map (fun _ => default) (Array.range 0)) (by simp [h0])).1
        simp [execOp, Instr.buildSlice, run_underlying hkd', hty.runSize w, h0, newRow, hf]
      · have hf := (hfill ((Array.range (n * te.size)).map (z.cells[· % z.cells.size]!)) (by simp)).1
        have hgt : ¬ 16777216 < n * te.size := by omega
        simp [execOp, Instr.buildSlice, run_underlying hkd', hty.runSize w, h0, hty.runZero w, newRow, hf, hgt]
def closedCh : Ch → Bool
  | .ptr _ _ => false
  | .win _ _ _ _ => false
  | .fn _ cap => cap.all fun c => match c with | .inl _ => false | .inr _ => true
  | _ => true
theorem closedCh_ok {c : Ch} (h : closedCh c = true) (ok : c.Ok m) : c.Ok 0 := by
  cases c with
  | ptr b o => cases h
  | win b o n c => cases h
  | fn g cap =>
    intro b hb
    have := List.all_eq_true.1 h _ hb
    cases this
  | _ => exact ok
def plainKd : TKd → Bool
  | .iface => false
  | .other => false
  | _ => true
noncomputable def effIface (E : Env) (T : TypeId) : Option SV → Option Eff
  | some (.one c) => bif plainKd (kindOf E T) && closedCh c then some (.put (.one (.val (.iface T (c.den fun _ => 0)))) []) else none
  | some (.agg l) => bif plainKd (kindOf E T) && l.all closedCh then some (.put (.one (.val (.iface T (SV.den (fun _ => 0) (.agg l))))) []) else none
  | _ => none
theorem plainKd_run {t : TypeId} {k : TKd} (hk : KindOk P t k) (hp : plainKd k = true) : ∃ d, P.underlying t = some d ∧ ∀ ms, d ≠ .interface ms := by
  cases k <;> first | (cases hp; done) | skip
  case struct fs => obtain ⟨fl, h, _⟩ := hk; exact ⟨_, h, fun ms h => by cases h⟩
  all_goals exact ⟨_, hk, fun ms h => by cases h⟩
theorem effIface_ok {T : TypeId} {x : Operand} {xs : Option SV} {s : SV} {vc : List Prop} (hE : EnvOk P E) (hx : Kn β m xs (ρ x)) (h : effIface E T xs = some (.put s vc)) :
    RunV P ρ (.makeInterface T x) ty w (s.den β) ∧ s.Ok m := by
  have hkd := kindOf_ok (t := T) hE
  have hrun : ∀ v, ρ x = v → plainKd (kindOf E T) = true → ∀ d pos aft g, (execOp ρ ⟨d, .makeInterface T x, ty, pos, aft, g⟩).run P w = .ok (.value (.iface T v)) w := by
    intro v hv hp d pos aft g
    obtain ⟨td, h1, h2⟩ := plainKd_run hkd hp
    subst hv
    have h3 : (Instr.makeInterface T (ρ x)).run P w = .ok (.iface T (ρ x)) w := by
      unfold Instr.makeInterface
      simp only [Sem.run_bind, run_underlying h1, Result.andThen]
      cases td <;> first | rfl | exact absurd rfl (h2 _)
    simp [execOp, h3]
  unfold effIface at h
  split at h <;> first | (cases h; done) | skip
  · rename_i c
    have h1 := hx _ rfl
    cases hb : (plainKd (kindOf E T) && closedCh c) with
    | false => rw [hb] at h; cases h
    | true =>
      rw [hb] at h
      simp only [Bool.and_eq_true] at hb
      simp only [cond_true, Option.some.injEq] at h
      obtain ⟨rfl, rfl⟩ := put_inj h
      refine ⟨fun d pos aft g => ?_, rfl⟩
      have e : (SV.one c).den β = c.den fun _ => 0 := SV.den_congr (s := .one c) (m := 0) (fun i hi => absurd hi (Nat.not_lt_zero i)) (closedCh_ok hb.2 h1.2)
      rw [hrun _ (h1.1.trans e) hb.1]
      rfl
  · rename_i l
    have h1 := hx _ rfl
    cases hb : (plainKd (kindOf E T) && l.all closedCh) with
    | false => rw [hb] at h; cases h
    | true =>
      rw [hb] at h
      simp only [Bool.and_eq_true] at hb
      simp only [cond_true, Option.some.injEq] at h
      obtain ⟨rfl, rfl⟩ := put_inj h
      refine ⟨fun d pos aft g => ?_, rfl⟩
      have e : (SV.agg l).den β = SV.den (fun _ => 0) (.agg l) := SV.den_congr (s := .agg l) (m := 0) (fun i hi => absurd hi (Nat.not_lt_zero i)) (fun c hc => closedCh_ok (List.all_eq_true.1 hb.2 c hc) (h1.2 c hc))
      rw [hrun _ (h1.1.trans e) hb.1]
      rfl
/-- A window into an array, or into a slice, of the call's own. -/
def bnd : Option (Option SV) → Nat → Option Nat
  | none, d => some d
  | some (some (.one (.lit .i64 z))), _ => bif decide (0 ≤ z) then some z.toNat else none
  | _, _ => none
def effWin (E : Env) (T : TypeId) (x : Option SV) (lo hi mx : Option (Option SV)) : Option Eff :=
  match x, kindOf E T with
  | some (.one (.ptr b o)), .array n e => match E.get e, bnd mx n with
    | some te, some c => match bnd hi n with
      | some h => match bnd lo 0 with
        | some l => bif Nat.ble l h && Nat.ble h c && Nat.ble c n && (mx.isNone || hi.isSome) then some (.put (.one (.win b (bif Nat.beq c l then o else o + l * te.size) (h - l) (c - l))) []) else none
        | none => none
      | none => none
    | _, _ => none
  | _, _ => none
theorem bnd_run {x : Option (Option SV)} {xo : Option Operand} {d k y : Nat} {code : BoundsCode} {v : Value} (h : bnd x d = some k) (hs : x.isSome = true) (hk : ∀ o, xo = some o → Kn β m (x.getD none) (ρ o)) (hx : xo.map ρ = some v) (hle : k ≤ y) :
    (Instr.sliceBound v y code).run P w = .ok k w := by
  cases xo with
  | none => cases hx
  | some o =>
    simp only [Option.map_some, Option.some.injEq] at hx
    subst hx
    unfold bnd at h
    split at h <;> first | (cases h; done) | skip
    · cases hs
    · rename_i z
      have h1 := (hk o rfl _ rfl).1
      by_cases h0 : 0 ≤ z
      · rw [decide_eq_true h0] at h
        simp only [cond_true, Option.some.injEq] at h
        subst h
        simp only [SV.den, Ch.den] at h1
        have h2 : z ≤ (y : Int) := by omega
        simp [Instr.sliceBound, h1, asIntOf, h0, h2]
      · rw [decide_eq_false h0] at h
        cases h
theorem effWin_ok {T : TypeId} {x : Operand} {lo hi mx : Option Operand} {f : Operand → Option SV} {s : SV} {vc : List Prop} (hE : EnvOk P E) (hx : Kn β m (f x) (ρ x)) (hl : ∀ o, lo = some o → Kn β m (f o) (ρ o)) (hh : ∀ o, hi = some o → Kn β m (f o) (ρ o)) (hmx : ∀ o, mx = some o → Kn β m (f o) (ρ o))
    (h : effWin E T (f x) (lo.map f) (hi.map f) (mx.map f) = some (.put s vc)) : RunV P ρ (.slice T x lo hi mx) ty w (s.den β) ∧ s.Ok m := by
  have hkd := kindOf_ok (t := T) hE
  unfold effWin at h
  split at h <;> first | (cases h; done) | skip
  rename_i b o n e e1 e2
  rw [e2] at hkd
  have h1 := hx _ e1
  split at h <;> first | (cases h; done) | skip
  rename_i te c e3 e4
  obtain ⟨z, hty, _⟩ := (hE.get e3).ty
  split at h <;> first | (cases h; done) | skip
  rename_i hh' e5
  split at h <;> first | (cases h; done) | skip
  rename_i l e6
  cases hb : (Nat.ble l hh' && Nat.ble hh' c && Nat.ble c n && ((mx.map f).isNone || (hi.map f).isSome)) with
  | false => rw [hb] at h; cases h
  | true =>
    rw [hb] at h
    simp only [Bool.and_eq_true] at hb
    obtain ⟨⟨⟨b1, b2⟩, b3⟩, b4⟩ := hb
    have c1 := Nat.le_of_ble_eq_true b1
    have c2 := Nat.le_of_ble_eq_true b2
    have c3 := Nat.le_of_ble_eq_true b3
    simp only [cond_true, Option.some.injEq] at h
    obtain ⟨rfl, rfl⟩ := put_inj h
    refine ⟨fun d pos aft g => ?_, h1.2⟩
    have hbs : (Instr.sliceBounds false n n (lo.map ρ) (hi.map ρ) (mx.map ρ)).run P w = .ok (l, hh', c) w := by
      unfold Instr.sliceBounds
      cases mx with
      | none =>
        have ec : c = n := by simpa [bnd] using e4.symm
        subst ec
        cases hi with
        | none =>
          have eh : hh' = c := by simpa [bnd] using e5.symm
          subst eh
          cases lo with
          | none =>
            have el : l = 0 := by simpa [bnd] using e6.symm
            subst el
            simp
          | some lo' =>
            have r1 := fun code => bnd_run (P := P) (w := w) (ρ := ρ) (β := β) (m := m) (y := hh') (code := code) (v := ρ lo') e6 rfl (xo := some lo') (fun o ho => by cases ho; exact hl _ rfl) rfl c1
            simp [r1]
        | some hi' =>
          have r2 := fun code => bnd_run (P := P) (w := w) (ρ := ρ) (β := β) (m := m) (y := c) (code := code) (v := ρ hi') e5 rfl (xo := some hi') (fun o ho => by cases ho; exact hh _ rfl) rfl c2
          cases lo with
          | none =>
            have el : l = 0 := by simpa [bnd] using e6.symm
            subst el
            simp [r2]
          | some lo' =>
            have r1 := fun code => bnd_run (P := P) (w := w) (ρ := ρ) (β := β) (m := m) (y := hh') (code := code) (v := ρ lo') e6 rfl (xo := some lo') (fun o ho => by cases ho; exact hl _ rfl) rfl c1
            simp [r1, r2]
      | some mx' =>
        have r3 := fun code => bnd_run (P := P) (w := w) (ρ := ρ) (β := β) (m := m) (y := n) (code := code) (v := ρ mx') e4 rfl (xo := some mx') (fun o ho => by cases ho; exact hmx _ rfl) rfl c3
        cases hi with
        | none => simp at b4
        | some hi' =>
          have r2 := fun code => bnd_run (P := P) (w := w) (ρ := ρ) (β := β) (m := m) (y := c) (code := code) (v := ρ hi') e5 rfl (xo := some hi') (fun o ho => by cases ho; exact hh _ rfl) rfl c2
          cases lo with
          | none =>
            have el : l = 0 := by simpa [bnd] using e6.symm
            subst el
            simp [r2, r3]
          | some lo' =>
            have r1 := fun code => bnd_run (P := P) (w := w) (ρ := ρ) (β := β) (m := m) (y := hh') (code := code) (v := ρ lo') e6 rfl (xo := some lo') (fun o ho => by cases ho; exact hl _ rfl) rfl c1
            simp [r1, r2, r3]
    have h1' : ρ x = .pointer (some ⟨β b, o, none⟩) := h1.1
    have hkd' : P.underlying T = some (.array n e) := hkd
    have e7 : (if c = l then (⟨β b, o, none⟩ : Addr) else (⟨β b, o, none⟩ : Addr).add (l * te.size)) = ⟨β b, bif Nat.beq c l then o else o + l * te.size, none⟩ := by
      by_cases hcl : c = l
      · subst hcl; simp
      · have : Nat.beq c l = false := by
          cases hq : Nat.beq c l with
          | false => rfl
          | true => exact absurd (Nat.eq_of_beq_eq_true hq) hcl
        rw [if_neg hcl, add_addr, this]
        rfl
    simp [execOp, h1', Instr.sliceAt, run_underlying hkd', Instr.sureAddr, hbs, hty.runSize w, e7, SV.den, Ch.den]
def effCall (E : Env) (cl : Callee) (ts : List TypeId) (xs : List (Option SV)) : Option Eff :=
  match cl, ts, xs with
  | .builtin .len, [t], [some (.one (.sl _ n))] => match kindOf E t with | .slice _ => some (.put (.one (.int .i64 n)) []) | _ => none
  | .builtin .len, [t], [some (.one (.win _ _ n _))] => match kindOf E t with | .slice _ => some (.put (.one (.lit .i64 n)) []) | _ => none
  | .builtin .len, [t], [some (.one (.str l))] => match kindOf E t with | .str => some (.put (.one (.int .i64 l.length)) []) | _ => none
  | .builtin .max, _, [some (.one (.lit k a)), some (.one (.lit _ b))] => some (.put (.one (.lit k (max a b))) [])
  | .builtin .max, _, [some (.one (.int k a)), some (.one (.lit _ b))] => some (.put (.one (.int k (max a b))) [])
  | .builtin .max, _, [some (.one (.lit k a)), some (.one (.int _ b))] => some (.put (.one (.int k (max a b))) [])
  | .builtin .max, _, [some (.one (.int k a)), some (.one (.int _ b))] => some (.put (.one (.int k (max a b))) [])
  | .builtin .min, _, [some (.one (.lit k a)), some (.one (.lit _ b))] => some (.put (.one (.lit k (min a b))) [])
  | .builtin .min, _, [some (.one (.int k a)), some (.one (.lit _ b))] => some (.put (.one (.int k (min a b))) [])
  | .builtin .min, _, [some (.one (.lit k a)), some (.one (.int _ b))] => some (.put (.one (.int k (min a b))) [])
  | .builtin .min, _, [some (.one (.int k a)), some (.one (.int _ b))] => some (.put (.one (.int k (min a b))) [])
  | _, _, _ => none
theorem max_if (a b : Int) : (if b > a then b else a) = max a b := by split <;> omega
theorem min_if (a b : Int) : (if b < a then b else a) = min a b := by split <;> omega
theorem effCall_ok {c : Call} {f : Operand → Option SV} {s : SV} {vc : List Prop} (hE : EnvOk P E) (hx : ∀ x ∈ c.args.toList, Kn β m (f x) (ρ x)) (h : effCall E c.callee c.argTypes.toList (c.args.toList.map f) = some (.put s vc)) :
    RunV P ρ (.call c) ty w (s.den β) ∧ s.Ok m := by
  obtain ⟨cl, args, ts⟩ := c
  simp only at h hx
  generalize hts : ts.toList = tl at h
  have hts' : ts = tl.toArray := by rw [← hts, Array.toArray_toList]
  subst hts'
  have two : ∀ {u v : Option SV}, args.toList.map f = [u, v] → ∃ x y, args = #[x, y] ∧ Kn β m u (ρ x) ∧ Kn β m v (ρ y) := by
    intro u v he
    match hal : args.toList, he with
    | [x, y], he =>
      rw [hal] at hx
      simp only [List.map_cons, List.map_nil, List.cons.injEq, and_true] at he
      exact ⟨x, y, by rw [← Array.toArray_toList (xs := args), hal], by rw [← he.1]; exact hx x (by simp), by rw [← he.2]; exact hx y (by simp)⟩
  have one : ∀ {u : Option SV}, args.toList.map f = [u] → ∃ x, args = #[x] ∧ Kn β m u (ρ x) := by
    intro u he
    match hal : args.toList, he with
    | [x], he =>
      rw [hal] at hx
      simp only [List.map_cons, List.map_nil, List.cons.injEq, and_true] at he
      exact ⟨x, by rw [← Array.toArray_toList (xs := args), hal], by rw [← he]; exact hx x (by simp)⟩
  generalize hxs : args.toList.map f = xl at h
  unfold effCall at h
  split at h <;> first | (cases h; done) | skip
  · rename_i t sv n
    have hkd := kindOf_ok (t := t) hE
    obtain ⟨x, rfl, h1⟩ := one hxs
    split at h <;> first | (cases h; done) | skip
    rename_i e e1
    rw [e1] at hkd
    have hkd' : P.underlying t = some (.slice e) := hkd
    simp only [Option.some.injEq] at h
    obtain ⟨rfl, rfl⟩ := put_inj h
    obtain ⟨h2, a, cc, h3, _⟩ := h1 _ rfl
    have h4 : ρ x = .slice a n cc := by rw [h2]; exact h3
    exact ⟨fun d pos aft g => by simp [execOp, resolve, invoke, builtin, h4, Builtin.len_, run_underlying hkd', goInt, SV.den, Ch.den], trivial⟩
  · rename_i t _ _ n _
    have hkd := kindOf_ok (t := t) hE
    obtain ⟨x, rfl, h1⟩ := one hxs
    split at h <;> first | (cases h; done) | skip
    rename_i e e1
    rw [e1] at hkd
    have hkd' : P.underlying t = some (.slice e) := hkd
    simp only [Option.some.injEq] at h
    obtain ⟨rfl, rfl⟩ := put_inj h
    have h4 := (h1 _ rfl).1
    exact ⟨fun d pos aft g => by simp [execOp, resolve, invoke, builtin, h4, Builtin.len_, run_underlying hkd', goInt, SV.den, Ch.den], trivial⟩
  · rename_i t l
    have hkd := kindOf_ok (t := t) hE
    obtain ⟨x, rfl, h1⟩ := one hxs
    split at h <;> first | (cases h; done) | skip
    rename_i e1
    rw [e1] at hkd
    have hkd' : P.underlying t = some .string := hkd
    simp only [Option.some.injEq] at h
    obtain ⟨rfl, rfl⟩ := put_inj h
    have h4 := (h1 _ rfl).1
    have h5 : ρ x = strV l := h4
    have e5 : (⟨l.toArray⟩ : ByteArray).size = l.length := by show l.toArray.size = _; simp
    exact ⟨fun d pos aft g => by simp [execOp, resolve, invoke, builtin, h5, Builtin.len_, run_underlying hkd', goInt, SV.den, Ch.den, e5, -ByteArray.size_data], trivial⟩
  all_goals
    obtain ⟨x, y, rfl, h1, h2⟩ := two hxs
    simp only [Option.some.injEq] at h
    obtain ⟨rfl, rfl⟩ := put_inj h
    have h3 := (h1 _ rfl).1
    have h4 := (h2 _ rfl).1
    simp only [SV.den, Ch.den] at h3 h4
    exact ⟨fun d pos aft g => by simp [execOp, resolve, invoke, builtin, h3, h4, run_max_int2, run_min_int2, max_if, min_if, SV.den, Ch.den], trivial⟩
end
end Go.Proofs.YtpmnjjmngogkkaaGreatDoor
end

section
set_option linter.unusedVariables false
set_option linter.unusedSimpArgs false
namespace Go.Proofs.YtpmnjjmngogkkaaGreatDoor
open Go Go.RowKit
def putOnly : Option Eff → Option Eff
  | some (.put s vc) => some (.put s vc)
  | _ => none
def mkOnly : Option Eff → Option Eff
  | some (.mk T l s) => some (.mk T l s)
  | _ => none
def wrOnly : Option Eff → Option Eff
  | some (.wr b l) => some (.wr b l)
  | _ => none
theorem putOnly_eq {x : Option Eff} {e : Eff} (h : putOnly x = some e) : x = some e ∧ ∃ s vc, e = .put s vc := by
  unfold putOnly at h
  split at h
  · exact ⟨h, _, _, (Option.some.inj h).symm⟩
  · cases h
theorem mkOnly_eq {x : Option Eff} {e : Eff} (h : mkOnly x = some e) : x = some e ∧ ∃ T l s, e = .mk T l s := by
  unfold mkOnly at h
  split at h
  · exact ⟨h, _, _, _, (Option.some.inj h).symm⟩
  · cases h
theorem wrOnly_eq {x : Option Eff} {e : Eff} (h : wrOnly x = some e) : x = some e ∧ ∃ b l, e = .wr b l := by
  unfold wrOnly at h
  split at h
  · exact ⟨h, _, _, (Option.some.inj h).symm⟩
  · cases h
noncomputable def effV (E : Env) (fr : List (Nat × SV)) (hp : List HE) : Op → Option Eff
  | .move x => (opd fr x).map fun s => .put s []
  | .assign x => (opd fr x).map fun s => .put s []
  | .pick c x y => effPick (opd fr c) (opd fr x) (opd fr y)
  | .build T ps => effBuild E T (ps.toList.map fun p => (p.1, opd fr p.2))
  | .load T x => effLoad E hp T (opd fr x)
  | .nilCheck x => effNil (opd fr x)
  | .binOp op t x y _ => effBin E op t (opd fr x) (opd fr y)
  | .unOp op _ x => effUn op (opd fr x)
  | .convert s d x => effConv E s d (opd fr x)
  | .makeInterface T x => effIface E T (opd fr x)
  | .makeFunc fn first cap => effFunc fn first (cap.toList.map (opd fr))
  | .slice T x lo hi mx => effWin E T (opd fr x) (lo.map (opd fr)) (hi.map (opd fr)) (mx.map (opd fr))
  | .fieldAddr T x f => effFieldA E T f (opd fr x)
  | .field T x f => effField E T f (opd fr x)
  | .indexAddr T x i => effIndexA E T (opd fr x) (opd fr i)
  | .index T x i => effIndex E T (opd fr x) (opd fr i)
  | .extract x i => effExtract i (opd fr x)
  | .call c => effCall E c.callee c.argTypes.toList (c.args.toList.map (opd fr))
  | _ => none
noncomputable def eff (E : Env) (fr : List (Nat × SV)) (hp : List HE) : Op → Option Eff
  | .alloc T => mkOnly (effAlloc E T hp.length)
  | .box T x => mkOnly (effBox T hp.length (opd fr x))
  | .buildSlice T n ps => mkOnly (effLit E T n hp.length (ps.toList.map fun p => (p.1, opd fr p.2)))
  | .store T x y => wrOnly (effStore E hp T (opd fr x) (opd fr y))
  | o => putOnly (effV E fr hp o)
section
variable {P : Program} {E : Env} {β : Nat → Nat} {w : World} {ty : TypeId} {ρ : Operand → Value} {base : Nat} {fr : List (Nat × SV)} {hp : List HE}
/-- What the operands of an operation are. -/
def OpsKn (β : Nat → Nat) (m : Nat) (fr : List (Nat × SV)) (ρ : Operand → Value) (o : Op) : Prop := ∀ x, x ∈ o.operands.toList → Kn β m (opd fr x) (ρ x)
theorem effV_ok {o : Op} {s : SV} {vc : List Prop} {m : Nat} (hle : hp.length ≤ m) (hE : EnvOk P E) (hm : Mem base hp β w) (hk : OpsKn β m fr ρ o) (h : effV E fr hp o = some (.put s vc)) (hv : AllT vc) : RunV P ρ o ty w (s.den β) ∧ s.Ok m := by
  cases o <;> simp only [effV] at h <;> first | (cases h; done) | skip
  case move x =>
    have h1 := hk x (by simp [Op.operands]) _ (mapPut h)
    exact ⟨fun d pos aft g => by simp [execOp, h1.1], h1.2⟩
  case assign x =>
    have h1 := hk x (by simp [Op.operands]) _ (mapPut h)
    exact ⟨fun d pos aft g => by simp [execOp, h1.1], h1.2⟩
  case pick c x y => exact effPick_ok (hk c (by simp [Op.operands])) (hk x (by simp [Op.operands])) (hk y (by simp [Op.operands])) h
  case build T ps => exact effBuild_ok hE (fun p hp => hk p.2 (by simp [Op.operands]; exact ⟨p.1, by simpa using hp⟩)) h
  case load T x => exact ⟨(effLoad_ok hE hm (hk x (by simp [Op.operands])) h).1, (effLoad_ok (P := P) (ty := ty) hE hm (hk x (by simp [Op.operands])) h).2.le hle⟩
  case nilCheck x => exact effNil_ok (hk x (by simp [Op.operands])) h
  case binOp op t x y t' => exact effBin_ok hE (hk x (by simp [Op.operands])) (hk y (by simp [Op.operands])) h hv
  case unOp op t x => exact effUn_ok (hk x (by simp [Op.operands])) h hv
  case convert a b x => exact effConv_ok hE (hk x (by simp [Op.operands])) h hv
  case makeInterface T x => exact effIface_ok hE (hk x (by simp [Op.operands])) h
  case makeFunc fn first cap => exact effFunc_ok (fun x hx => hk x (by simp only [Op.operands, Array.toList_append, List.mem_append]; exact .inr hx)) h
  case slice T x lo hi mx =>
    exact effWin_ok (f := opd fr) hE (hk x (by simp [Op.operands])) (fun o ho => hk o (by subst ho; simp [Op.operands])) (fun o ho => hk o (by subst ho; simp [Op.operands])) (fun o ho => hk o (by subst ho; simp [Op.operands])) h
  case fieldAddr T x f => exact effFieldA_ok hE (hk x (by simp [Op.operands])) h
  case field T x f => exact effField_ok hE (hk x (by simp [Op.operands])) h
  case indexAddr T x i => exact effIndexA_ok hE (hk x (by simp [Op.operands])) (hk i (by simp [Op.operands])) h
  case index T x i => exact effIndex_ok hE (hk x (by simp [Op.operands])) (hk i (by simp [Op.operands])) h
  case extract x i => exact effExtract_ok (hk x (by simp [Op.operands])) h
  case call c => exact effCall_ok (f := opd fr) hE (fun x hx => hk x (by simp only [Op.operands, Call.operands, Array.toList_append, List.mem_append]; exact .inr hx)) h
theorem eff_put {o : Op} {s : SV} {vc : List Prop} (hE : EnvOk P E) (hm : Mem base hp β w) (hk : OpsKn β hp.length fr ρ o) (h : eff E fr hp o = some (.put s vc)) (hv : AllT vc) : RunV P ρ o ty w (s.den β) ∧ s.Ok hp.length := by
  unfold eff at h
  split at h
  · obtain ⟨_, _, _, _, e⟩ := mkOnly_eq h; cases e
  · obtain ⟨_, _, _, _, e⟩ := mkOnly_eq h; cases e
  · obtain ⟨_, _, _, _, e⟩ := mkOnly_eq h; cases e
  · obtain ⟨_, _, _, e⟩ := wrOnly_eq h; cases e
  · exact effV_ok (Nat.le_refl _) hE hm hk (putOnly_eq h).1 hv
theorem eff_mk {o : Op} {T : TypeId} {l : List Ch} {s : SV} (hE : EnvOk P E) (hk : OpsKn β hp.length fr ρ o) (h : eff E fr hp o = some (.mk T l s)) :
    (∀ c ∈ l, c.Ok hp.length) ∧ s.Ok (hp.length + 1) ∧ ∀ β' : Nat → Nat, β' hp.length = w.heap.size → ∀ d pos aft g, (execOp ρ ⟨d, o, ty, pos, aft, g⟩).run P w = .ok (.value (s.den β')) (w.alloc (.cells (cellsL β l).toArray T)) := by
  unfold eff at h
  split at h
  · rename_i T'
    obtain ⟨rfl, rfl, h1, h2⟩ := effAlloc_ok (P := P) (m := hp.length) (β := β) (w := w) (ρ := ρ) (ty := ty) hE (mkOnly_eq h).1
    exact ⟨h1, Nat.lt_succ_self _, fun β' hb d pos aft g => by rw [h2]; simp only [SV.den, Ch.den, hb]⟩
  · rename_i T' x
    obtain ⟨rfl, rfl, h1, h2⟩ := effBox_ok (P := P) (w := w) (ty := ty) (hk x (by simp [Op.operands])) (mkOnly_eq h).1
    exact ⟨h1, Nat.lt_succ_self _, fun β' hb d pos aft g => by rw [h2]; simp only [SV.den, Ch.den, hb]⟩
  · rename_i T' n ps
    obtain ⟨rfl, h1, h2⟩ := effLit_ok (P := P) (w := w) (ty := ty) hE (fun p hp => hk p.2 (by simp [Op.operands]; exact ⟨p.1, by simpa using hp⟩)) (mkOnly_eq h).1
    exact ⟨h1, Nat.lt_succ_self _, fun β' hb d pos aft g => by rw [h2]; simp only [SV.den, Ch.den, hb]⟩
  · obtain ⟨_, _, _, e⟩ := wrOnly_eq h; cases e
  · obtain ⟨_, _, _, e⟩ := putOnly_eq h; cases e
theorem eff_wr {o : Op} {b : Nat} {l' : List Ch} (hE : EnvOk P E) (hm : Mem base hp β w) (hk : OpsKn β hp.length fr ρ o) (h : eff E fr hp o = some (.wr b l')) :
    ∃ T' l w', hp[b]? = some (HE.blk T' l) ∧ (∀ c ∈ l', c.Ok hp.length) ∧ Wrt (β b) w w' ∧ Blk w' (β b) T' (cellsL β l') ∧ ∀ d pos aft g, (execOp ρ ⟨d, o, ty, pos, aft, g⟩).run P w = .ok .skip w' := by
  unfold eff at h
  split at h
  · obtain ⟨_, _, _, _, e⟩ := mkOnly_eq h; cases e
  · obtain ⟨_, _, _, _, e⟩ := mkOnly_eq h; cases e
  · obtain ⟨_, _, _, _, e⟩ := mkOnly_eq h; cases e
  · rename_i T x y
    exact effStore_ok hE hm (hk x (by simp [Op.operands])) (hk y (by simp [Op.operands])) (wrOnly_eq h).1
  · obtain ⟨_, _, _, e⟩ := putOnly_eq h; cases e
end
/-- What is known of the world besides: it outlasts writes elsewhere. -/
structure Gh where
  p : (Nat → Prop) → World → Prop
  keep : ∀ {S : Nat → Prop} {w w' : World}, p S w → Keeps S w w' → p S w'
  mono : ∀ {S S' : Nat → Prop} {w : World}, p S w → (∀ k, k < w.heap.size → S k → S' k) → p S' w
abbrev Gh.nil : Gh := ⟨fun _ _ => True, fun _ _ => trivial, fun _ _ => trivial⟩
abbrev Gh.and (a b : Gh) : Gh := ⟨fun S w => a.p S w ∧ b.p S w, fun h k => ⟨a.keep h.1 k, b.keep h.2 k⟩, fun h k => ⟨a.mono h.1 k, b.mono h.2 k⟩⟩
structure St where
  fr : List (Nat × SV)
  hp : List HE
structure Sat (base : Nat) (st : St) (β : Nat → Nat) (ρ : Fr) (w : World) : Prop where
  fr : ∀ d, Kn β st.hp.length (look st.fr d) (ρ d)
  mem : Mem base st.hp β w
theorem Sat.ops {base : Nat} {st : St} {β : Nat → Nat} {ρ : Fr} {w : World} (h : Sat base st β ρ w) (o : Op) : OpsKn β st.hp.length st.fr (ev ρ) o :=
  fun x _ => opd_kn fun t _ => h.fr t
theorem Mem.to {base : Nat} {hp : List HE} {β : Nat → Nat} {w w' : World} (h : Mem base hp β w) (k : Ext w w') : Mem base hp β w' :=
  ⟨fun i T l hi => ⟨(h.blk i T l hi).1.to k, (h.blk i T l hi).2⟩, fun i T s v n cs hi => own_to (h.row i T s v n cs hi) k, fun i k' hk => ⟨(h.low i k' hk).1, Nat.lt_of_lt_of_le (h.low i k' hk).2 k.size⟩, h.apart⟩
theorem look_cons {i d : Nat} {s : SV} {r : List (Nat × SV)} : look ((i, s) :: r) d = if i = d then some s else look r d := by
  simp only [look]
  by_cases e : i = d
  · subst e; simp
  · have : Nat.beq i d = false := by
      cases hq : Nat.beq i d with
      | false => rfl
      | true => exact absurd (Nat.eq_of_beq_eq_true hq) e
    rw [this, if_neg e]
    rfl
theorem upd_eq {ρ : Fr} {d i : Nat} {v : Value} : upd ρ d v i = if d = i then v else ρ i := by
  by_cases e : d = i
  · subst e; rw [upd_same, if_pos rfl]
  · rw [if_neg e, upd_ne]
    cases hq : Nat.beq i d with
    | false => rfl
    | true => exact absurd (Nat.eq_of_beq_eq_true hq).symm e
theorem Sat.put {base : Nat} {st : St} {β : Nat → Nat} {ρ : Fr} {w : World} {d : Nat} {s : SV} {v : Value} (h : Sat base st β ρ w) (hv : v = s.den β) (ok : s.Ok st.hp.length) : Sat base ⟨(d, s) :: st.fr, st.hp⟩ β (upd ρ d v) w := by
  refine ⟨fun i s' hs => ?_, h.mem⟩
  rw [look_cons] at hs
  rw [upd_eq]
  split at hs
  · rename_i e
    rw [if_pos e]
    simp only [Option.some.injEq] at hs
    subst hs
    exact ⟨hv, ok⟩
  · rename_i e
    rw [if_neg e]
    exact h.fr i s' hs
theorem Sat.to {base : Nat} {st : St} {β : Nat → Nat} {ρ : Fr} {w w' : World} (h : Sat base st β ρ w) (k : Ext w w') : Sat base st β ρ w' := ⟨h.fr, h.mem.to k⟩
/-- The blocks of the entries, one more. -/
def βs (β : Nat → Nat) (n g : Nat) : Nat → Nat := fun i => if i = n then g else β i
theorem βs_lt {β : Nat → Nat} {n g i : Nat} (h : i < n) : βs β n g i = β i := by unfold βs; rw [if_neg (by omega)]
theorem βs_same {β : Nat → Nat} {n g : Nat} : βs β n g n = g := by unfold βs; rw [if_pos rfl]
theorem mineAt_snoc {β : Nat → Nat} {hp : List HE} {T : TypeId} {l : List Ch} {g i : Nat} : mineAt (βs β hp.length g) (hp ++ [.blk T l]) i = if i = hp.length then some g else mineAt β hp i := by
  unfold mineAt
  by_cases e : i = hp.length
  · subst e
    simp [HE.mine, βs_same]
  · rw [if_neg e]
    by_cases hl : i < hp.length
    · rw [List.getElem?_append_left hl]
      cases hi : hp[i]? with
      | none => rfl
      | some x => simp only [Option.bind_some]; rw [βs_lt hl]
    · rw [List.getElem?_eq_none (l := hp) (by omega), List.getElem?_eq_none (by simp; omega)]
      rfl
theorem Sat.new {base : Nat} {st : St} {β : Nat → Nat} {ρ : Fr} {w : World} {d : Nat} {T : TypeId} {l : List Ch} {s : SV} (h : Sat base st β ρ w) (hb : base ≤ w.heap.size) (hok : ∀ c ∈ l, c.Ok st.hp.length) (ok : s.Ok (st.hp.length + 1)) :
    Sat base ⟨(d, s) :: st.fr, st.hp ++ [.blk T l]⟩ (βs β st.hp.length w.heap.size) (upd ρ d (s.den (βs β st.hp.length w.heap.size))) (w.alloc (.cells (cellsL β l).toArray T)) := by
  have hlen : (st.hp ++ [HE.blk T l]).length = st.hp.length + 1 := by simp
  have hc : ∀ i, i < st.hp.length → β i = βs β st.hp.length w.heap.size i := fun i hi => (βs_lt hi).symm
  have k := ext_alloc w (.cells (cellsL β l).toArray T)
  have h2 := h.to k
  refine ⟨fun i s' hs => ?_, ⟨?_, ?_, ?_, ?_⟩⟩
  · rw [look_cons] at hs
    rw [upd_eq, hlen]
    split at hs
    · rename_i e
      rw [if_pos e]
      simp only [Option.some.injEq] at hs
      subst hs
      exact ⟨rfl, ok⟩
    · rename_i e
      rw [if_neg e]
      obtain ⟨e1, e2⟩ := h.fr i s' hs
      exact ⟨e1.trans (SV.den_congr hc e2), e2.le (Nat.le_succ _)⟩
  · intro i T' l' hi
    rw [hlen]
    by_cases e : i = st.hp.length
    · subst e
      simp at hi
      obtain ⟨rfl, rfl⟩ := hi
      rw [βs_same]
      refine ⟨?_, fun c hc => (hok c hc).le (Nat.le_succ _)⟩
      rw [← cellsL_congr hc hok]
      exact Blk.new _ _ _
    · have hl : i < st.hp.length := by
        have := (List.getElem?_eq_some_iff.1 hi).1
        simp at this
        omega
      rw [List.getElem?_append_left hl] at hi
      obtain ⟨e1, e2⟩ := h2.mem.blk i T' l' hi
      rw [βs_lt hl, ← cellsL_congr hc e2]
      exact ⟨e1, fun c hc => (e2 c hc).le (Nat.le_succ _)⟩
  · intro i T' s' v n cs hi
    have hl : i < st.hp.length := by
      have h3 := (List.getElem?_eq_some_iff.1 hi).1
      simp at h3
      rcases Nat.lt_or_ge i st.hp.length with h | h
      · exact h
      · obtain rfl : i = st.hp.length := by omega
        simp at hi
    rw [List.getElem?_append_left hl] at hi
    exact h2.mem.row i T' s' v n cs hi
  · intro i k' hk
    rw [mineAt_snoc] at hk
    split at hk
    · simp only [Option.some.injEq] at hk
      subst hk
      exact ⟨hb, by simp⟩
    · exact h2.mem.low i k' hk
  · intro i j k' hi hj
    rw [mineAt_snoc] at hi hj
    split at hi <;> split at hj
    · omega
    · simp only [Option.some.injEq] at hi
      have := (h.mem.low j k' hj).2
      omega
    · simp only [Option.some.injEq] at hj
      have := (h.mem.low i k' hi).2
      omega
    · exact h.mem.apart i j k' hi hj
theorem Sof_mk {S0 : Nat → Prop} {base : Nat} {hp : List HE} {β : Nat → Nat} {w : World} {T : TypeId} {l : List Ch} : ∀ k, k < w.heap.size → Sof S0 β hp k → Sof S0 (βs β hp.length w.heap.size) (hp ++ [.blk T l]) k := by
  intro k hk ⟨h1, h2⟩
  refine ⟨h1, fun i hi => ?_⟩
  rw [mineAt_snoc] at hi
  split at hi
  · simp only [Option.some.injEq] at hi; omega
  · exact h2 i hi
theorem mineAt_set {β : Nat → Nat} {hp : List HE} {b : Nat} {T T' : TypeId} {l l' : List Ch} (h : hp[b]? = some (.blk T l)) (i : Nat) : mineAt β (hp.set b (.blk T' l')) i = mineAt β hp i := by
  unfold mineAt
  by_cases e : b = i
  · subst e
    have hl := (List.getElem?_eq_some_iff.1 h).1
    rw [h, List.getElem?_set_self hl]
    rfl
  · rw [List.getElem?_set_ne e]
theorem Sat.wr {base : Nat} {st : St} {β : Nat → Nat} {ρ : Fr} {w w' : World} {b : Nat} {T : TypeId} {l l' : List Ch} (h : Sat base st β ρ w) (hb : st.hp[b]? = some (.blk T l)) (hok : ∀ c ∈ l', c.Ok st.hp.length) (k : Wrt (β b) w w') (hn : Blk w' (β b) T (cellsL β l')) :
    Sat base ⟨st.fr, st.hp.set b (.blk T l')⟩ β ρ w' := by
  have hlen : (st.hp.set b (.blk T l')).length = st.hp.length := by simp
  have hbl := (List.getElem?_eq_some_iff.1 hb).1
  have hmb : mineAt β st.hp b = some (β b) := by unfold mineAt; rw [hb]; rfl
  refine ⟨fun d => by rw [hlen]; exact h.fr d, ⟨?_, ?_, ?_, ?_⟩⟩
  · intro i T' l2 hi
    rw [hlen]
    by_cases e : b = i
    · subst e
      rw [List.getElem?_set_self hbl] at hi
      simp only [Option.some.injEq, HE.blk.injEq] at hi
      obtain ⟨rfl, rfl⟩ := hi
      exact ⟨hn, hok⟩
    · rw [List.getElem?_set_ne e] at hi
      obtain ⟨e1, e2⟩ := h.mem.blk i T' l2 hi
      refine ⟨e1.wr k fun e3 => e ?_, e2⟩
      exact h.mem.apart b i (β b) hmb (by unfold mineAt; rw [hi]; show some (β i) = _; rw [e3])
  · intro i T' s v n cs hi
    have e : b ≠ i := by
      intro e
      subst e
      rw [List.getElem?_set_self hbl] at hi
      cases hi
    rw [List.getElem?_set_ne e] at hi
    refine own_keep (h.mem.row i T' s v n cs hi) k fun g hg e3 => e ?_
    exact h.mem.apart b i (β b) hmb (by unfold mineAt; rw [hi]; show v.ownBlock = _; rw [hg, e3])
  · intro i k' hk
    rw [mineAt_set hb] at hk
    obtain ⟨e1, e2⟩ := h.mem.low i k' hk
    exact ⟨e1, Nat.lt_of_lt_of_le e2 k.size⟩
  · intro i j k' hi hj
    rw [mineAt_set hb] at hi hj
    exact h.mem.apart i j k' hi hj
noncomputable def stepOp (E : Env) (st : St) (o : Oper) : Option (St × List Prop) :=
  match eff E st.fr st.hp o.op, o.dst with
  | some (.put s vc), some d => some (⟨(d, s) :: st.fr, st.hp⟩, vc)
  | some (.mk T l s), some d => some (⟨(d, s) :: st.fr, st.hp ++ [.blk T l]⟩, [])
  | some (.wr b l), none => match nth st.hp b with
    | some (.blk T _) => some (⟨st.fr, setN st.hp b (.blk T l)⟩, [])
    | _ => none
  | _, _ => none
/-- How the world goes on: what is known stays. -/
def Onw (S0 : Nat → Prop) (w0 : World) (β : Nat → Nat) (hp : List HE) (w : World) (β' : Nat → Nat) (hp' : List HE) (w' : World) : Prop :=
  Ext w0 w' ∧ ∀ G : Gh, G.p (Sof S0 β hp) w → G.p (Sof S0 β' hp') w'
theorem stepOp_ok {P : Program} {E : Env} {S0 : Nat → Prop} {w0 w : World} {st st' : St} {β : Nat → Nat} {ρ : Fr} {o : Oper} {vc : List Prop} (hE : EnvOk P E) (h : Sat w0.heap.size st β ρ w) (hw : Ext w0 w)
    (hs : stepOp E st o = some (st', vc)) (hv : AllT vc) : Stp P (ev ρ) o w fun v w' => ∃ β', Sat w0.heap.size st' β' (updO ρ o.dst v) w' ∧ Onw S0 w0 β st.hp w β' st'.hp w' := by
  obtain ⟨dst, op, ty, pos, aft, g⟩ := o
  unfold stepOp at hs
  simp only at hs
  split at hs <;> first | (cases hs; done) | skip
  · rename_i s vc' d he
    simp only [Option.some.injEq, Prod.mk.injEq] at hs
    obtain ⟨rfl, rfl⟩ := hs
    obtain ⟨h1, h2⟩ := eff_put (P := P) (ty := ty) hE h.mem (h.ops op) he hv
    unfold Stp
    rw [h1]
    exact ⟨β, h.put rfl h2, hw, fun G hG => hG⟩
  · rename_i T l s d he
    simp only [Option.some.injEq, Prod.mk.injEq] at hs
    obtain ⟨rfl, rfl⟩ := hs
    obtain ⟨h1, h2, h3⟩ := eff_mk (P := P) (w := w) (ty := ty) hE (h.ops op) he
    unfold Stp
    rw [h3 _ βs_same]
    have k := ext_alloc w (.cells (cellsL β l).toArray T)
    exact ⟨_, h.new hw.size h1 h2, hw.trans k, fun G hG => G.keep (G.mono hG (Sof_mk (base := 0))) (.of k)⟩
  · rename_i b l he
    split at hs <;> first | (cases hs; done) | skip
    rename_i T l0 hn
    simp only [Option.some.injEq, Prod.mk.injEq] at hs
    obtain ⟨rfl, rfl⟩ := hs
    obtain ⟨T', l', w', h1, h2, h3, h4, h5⟩ := eff_wr (P := P) (ty := ty) hE h.mem (h.ops op) he
    rw [nth_eq] at hn
    rw [hn] at h1
    simp only [Option.some.injEq, HE.blk.injEq] at h1
    obtain ⟨rfl, rfl⟩ := h1
    unfold Stp
    rw [h5]
    have hmb : mineAt β st.hp b = some (β b) := by unfold mineAt; rw [hn]; rfl
    rw [setN_eq]
    refine ⟨β, h.wr hn h2 h3 h4, ?_, fun G hG => ?_⟩
    · exact Keeps.later hw h3 fun i hi _ e => by have := (h.mem.low b _ hmb).1; omega
    · refine G.mono (G.keep hG (h3.mono fun k hk e => hk.2 b (by rw [hmb, e]))) fun k _ hk => ⟨hk.1, fun i hi => ?_⟩
      rw [mineAt_set hn] at hi
      exact hk.2 i hi
end Go.Proofs.YtpmnjjmngogkkaaGreatDoor
end

section
set_option linter.unusedVariables false
set_option linter.unusedSimpArgs false
namespace Go.Proofs.YtpmnjjmngogkkaaGreatDoor
open Go Go.RowKit
/-- A loop's head, met again. -/
def LH (P : Program) (n : Nat) (c : Code) (Q : Post) (ρ : Fr) (w : World) : Prop :=
  codeOk n c = true → ∀ D act, Mt n D act ρ → ∀ b K cs, ∃ e a' w', lift n D Q e a' w' ∧ Arrives P (lone (b.at act (.code c :: .inLoop c :: K)) cs w) b K cs e a' w'
theorem lh_of {P : Program} {n : Nat} {c : Code} {Q : Post} {ρ : Fr} {w : World} (h : Wp P n c (thenQ (fun ρ w => LH P n c Q ρ w) Q) ρ w) : LH P n c Q ρ w := by
  intro hc D act hm b K cs
  unfold Wp at h
  obtain ⟨e, a₁, w₁, ⟨ρ₁, hm₁, hq⟩, harr⟩ := h hc D act hm b (.inLoop c :: K) cs
  cases e with
  | normal =>
    obtain ⟨e₂, a₂, w₂, hq₂, harr₂⟩ := hq hc D a₁ hm₁ b K cs
    exact ⟨e₂, a₂, w₂, hq₂, .of_steps (Steps.trans harr (.one step_inLoop)) harr₂⟩
  | exit id => exact ⟨_, a₁, w₁, ⟨ρ₁, hm₁, hq⟩, .pass (x := .inLoop c) rfl (fun _ _ => .inl (by simp)) harr⟩
  | goto l => exact ⟨_, a₁, w₁, ⟨ρ₁, hm₁, hq⟩, .pass (x := .inLoop c) rfl (fun _ _ => .inl (by simp)) harr⟩
  | ret => exact ⟨_, a₁, w₁, ⟨ρ₁, hm₁, hq⟩, .pass (x := .inLoop c) rfl (fun _ _ => .inl (by simp)) harr⟩
  | panic ch => exact ⟨_, a₁, w₁, ⟨ρ₁, hm₁, hq⟩, .pass (x := .inLoop c) rfl (fun _ _ => .inl (by simp)) harr⟩
  | outgrown => exact ⟨_, a₁, w₁, ⟨ρ₁, hm₁, hq⟩, .pass (x := .inLoop c) rfl (fun _ _ => .inl (by simp)) harr⟩
theorem wp_of_lh {P : Program} {n : Nat} {c : Code} {Q : Post} {ρ : Fr} {w : World} (h : LH P n c Q ρ w) : Wp P n (.loop c) Q ρ w := by
  unfold Wp
  intro hc D act hm b K cs
  obtain ⟨e, a', w', hq, harr⟩ := h (by simpa only [codeOk] using hc) D act hm b K cs
  exact ⟨e, a', w', hq, .of_steps (.one step_loop) harr⟩
inductive Cur where
  | code (c : Code)
  | ops (all rest : List Oper)
  | ex (e : Exit)
inductive Kt where
  | code (c : Code)
  | blk (i : Nat)
  | lp (c : Code)
structure Out where
  cur : Cur
  k : List Kt
  st : St
  vc : List Prop
def kQ (P : Program) (n : Nat) (Q : Post) : List Kt → Post
  | [] => Q
  | .code c :: k => thenQ (fun ρ w => Wp P n c (kQ P n Q k) ρ w) (kQ P n Q k)
  | .blk i :: k => blockQ i (kQ P n Q k)
  | .lp c :: k => thenQ (fun ρ w => LH P n c (kQ P n Q k) ρ w) (kQ P n Q k)
def curX (P : Program) (n : Nat) (Q : Post) : Cur → Fr → World → Prop
  | .code c => Wp P n c Q
  | .ops all rest => WpR P n all Q rest
  | .ex e => Q e
noncomputable def opStep (E : Env) (all : List Oper) (o1 : Oper) (r : List Oper) (o : Out) : Option Out :=
  match stepOp E o.st o1 with
  | some (st', vc) => some ⟨.ops all r, o.k, st', vc ++ o.vc⟩
  | none => none
def skipSt (st : St) (d : Option Tmp) : St := match d with | some d => ⟨(d, .und) :: st.fr, st.hp⟩ | none => st
noncomputable def nextO (E : Env) (un : Bool) (o : Out) : Option Out :=
  match o.cur with
  | .code c => match c with
    | .skip => some ⟨.ex .normal, o.k, o.st, o.vc⟩
    | .label _ => some ⟨.ex .normal, o.k, o.st, o.vc⟩
    | .seq a b => some ⟨.code a, .code b :: o.k, o.st, o.vc⟩
    | .block i c => some ⟨.code c, .blk i :: o.k, o.st, o.vc⟩
    | .exit i => some ⟨.ex (.exit i), o.k, o.st, o.vc⟩
    | .ret => some ⟨.ex .ret, o.k, o.st, o.vc⟩
    | .region _ ops d => bif d then none else some ⟨.ops ops.toList ops.toList, o.k, o.st, o.vc⟩
    | .cond x a b => match opd o.st.fr x with
      | some (.one (.bb true)) => some ⟨.code a, o.k, o.st, o.vc⟩
      | some (.one (.bb false)) => some ⟨.code b, o.k, o.st, o.vc⟩
      | _ => none
    | .loop c => bif un then some ⟨.code c, .lp c :: o.k, o.st, o.vc⟩ else none
    | _ => none
  | .ops all [] => some ⟨.ex .normal, o.k, o.st, o.vc⟩
  | .ops all (o1 :: r) => match o1.guard with
    | none => opStep E all o1 r o
    | some (j, want) => match dstAt all j with
      | none => none
      | some d => match look o.st.fr d with
        | some (.one (.bb x)) => bif x == want then some ⟨.ops all (⟨o1.dst, o1.op, o1.type, o1.pos, o1.after, none⟩ :: r), o.k, o.st, o.vc⟩ else some ⟨.ops all r, o.k, skipSt o.st o1.dst, o.vc⟩
        | some .und => some ⟨.ops all r, o.k, skipSt o.st o1.dst, o.vc⟩
        | _ => none
  | .ex e => match e, o.k with
    | .normal, .code c :: k => some ⟨.code c, k, o.st, o.vc⟩
    | .normal, .blk i :: k => some ⟨.ex .normal, k, o.st, o.vc⟩
    | .normal, .lp c :: k => some ⟨.code c, .lp c :: k, o.st, o.vc⟩
    | .exit i, .code _ :: k => some ⟨.ex (.exit i), k, o.st, o.vc⟩
    | .exit i, .lp _ :: k => some ⟨.ex (.exit i), k, o.st, o.vc⟩
    | .exit i, .blk j :: k => bif Nat.beq i j then some ⟨.ex .normal, k, o.st, o.vc⟩ else some ⟨.ex (.exit i), k, o.st, o.vc⟩
    | .ret, _ :: k => some ⟨.ex .ret, k, o.st, o.vc⟩
    | _, _ => none
noncomputable def exec (E : Env) (un : Bool) : Nat → Out → Out
  | 0, o => o
  | n + 1, o => match nextO E un o with
    | some o' => exec E un n o'
    | none => o
/-- What the walk of one function is about. -/
structure Cx where
  P : Program
  n : Nat
  E : Env
  w0 : World
  S0 : Nat → Prop
  Q : Post
structure Cx.Ok (c : Cx) : Prop where
  env : EnvOk c.P c.E
  up : Up c.S0 c.w0
def RunP (c : Cx) (st : St) (G : Gh) (X : Fr → World → Prop) : Prop := ∀ β ρ w, Sat c.w0.heap.size st β ρ w → Ext c.w0 w → G.p (Sof c.S0 β st.hp) w → X ρ w
structure Run (c : Cx) (o : Out) (G : Gh) : Prop where
  run : RunP c o.st G (curX c.P c.n (kQ c.P c.n c.Q o.k) o.cur)
/-- Conditions, closed to unfolding. -/
structure VcOk (l : List Prop) : Prop where
  all : AllT l
section
variable {c : Cx} {o o' : Out} {G : Gh} {un : Bool}
theorem skip_sat {base : Nat} {st : St} {β : Nat → Nat} {ρ : Fr} {w : World} (h : Sat base st β ρ w) (d : Option Tmp) : Sat base (skipSt st d) β (updO ρ d undef) w := by
  cases d with
  | none => exact h
  | some d => exact h.put rfl trivial
theorem skip_hp {st : St} {d : Option Tmp} : (skipSt st d).hp = st.hp := by cases d <;> rfl
theorem opStep_ok {all : List Oper} {o1 : Oper} {r : List Oper} (hc : c.Ok) (hg : o1.guard = none) (hcur : o.cur = .ops all (o1 :: r)) (h : opStep c.E all o1 r o = some o') (hv : AllT o'.vc) (hr : Run c o' G) : Run c o G := by
  unfold opStep at h
  cases hs : stepOp c.E o.st o1 with
  | none => rw [hs] at h; cases h
  | some x =>
    obtain ⟨st', vc⟩ := x
    rw [hs] at h
    simp only [Option.some.injEq] at h
    subst h
    refine ⟨fun β ρ w hS hw hG => ?_⟩
    rw [hcur]
    have h1 := stepOp_ok (S0 := c.S0) hc.env hS hw hs (allT_append.1 hv).1
    refine r_step hg (h1.mono fun v w' ⟨β', hS', hw', hG'⟩ => ?_)
    exact hr.run β' _ w' hS' hw' (hG' G hG)
theorem bif_some {b : Bool} {x y z : Out} (h : (bif b then some x else some y) = some z) : (b = true ∧ x = z) ∨ (b = false ∧ y = z) := by
  cases b
  · exact .inr ⟨rfl, Option.some.inj h⟩
  · exact .inl ⟨rfl, Option.some.inj h⟩
theorem nextO_vc (h : nextO c.E un o = some o') : AllT o'.vc → AllT o.vc := by
  intro hv
  unfold nextO at h
  split at h
  · split at h <;> first | (simp only [Option.some.injEq] at h; subst h; exact hv) | (cases h; done) | skip
    · rename_i d _
      cases d <;> simp only [cond_true, cond_false, Option.some.injEq] at h
      · subst h; exact hv
      · cases h
    · split at h <;> first | (simp only [Option.some.injEq] at h; subst h; exact hv) | (cases h; done)
    · cases un <;> simp only [cond_true, cond_false, Option.some.injEq] at h
      · cases h
      · subst h; exact hv
  · simp only [Option.some.injEq] at h; subst h; exact hv
  · split at h
    · unfold opStep at h
      split at h
      · simp only [Option.some.injEq] at h
        subst h
        exact (allT_append.1 hv).2
      · cases h
    · split at h
      · cases h
      · split at h <;> first | (simp only [Option.some.injEq] at h; subst h; exact hv) | (cases h; done) | skip
        rcases bif_some h with ⟨_, rfl⟩ | ⟨_, rfl⟩ <;> exact hv
  · split at h <;> first | (simp only [Option.some.injEq] at h; subst h; exact hv) | (cases h; done) | skip
    rcases bif_some h with ⟨_, rfl⟩ | ⟨_, rfl⟩ <;> exact hv
theorem guard_run {all r : List Oper} {o1 : Oper} {k : List Kt} {st : St} {vc : List Prop} {j d : Nat} {want x : Bool} (hg : o1.guard = some (j, want)) (hd : dstAt all j = some d) (hx : look st.fr d = some (.one (.bb x))) (hb : (x == want) = true)
    (hr : Run c ⟨.ops all (⟨o1.dst, o1.op, o1.type, o1.pos, o1.after, none⟩ :: r), k, st, vc⟩ G) : Run c ⟨.ops all (o1 :: r), k, st, vc⟩ G := by
  obtain ⟨dst, op, ty, pos, aft, g⟩ := o1
  simp only at hg
  subst hg
  refine ⟨fun β ρ w hS hw hG => ?_⟩
  refine r_guard_run hd ?_ (hr.run β ρ w hS hw hG)
  rw [((hS.fr d) _ hx).1, ← eq_of_beq hb]
  rfl
theorem guard_skip {all r : List Oper} {o1 : Oper} {k : List Kt} {st : St} {vc : List Prop} {j d : Nat} {want x : Bool} (hg : o1.guard = some (j, want)) (hd : dstAt all j = some d) (hx : look st.fr d = some (.one (.bb x))) (hb : (x == want) = false)
    (hr : Run c ⟨.ops all r, k, skipSt st o1.dst, vc⟩ G) : Run c ⟨.ops all (o1 :: r), k, st, vc⟩ G := by
  obtain ⟨dst, op, ty, pos, aft, g⟩ := o1
  simp only at hg
  subst hg
  refine ⟨fun β ρ w hS hw hG => ?_⟩
  refine r_guard_skip hd ((hS.fr d) _ hx).1 hb ?_
  exact hr.run β _ w (skip_sat hS dst) hw (by rw [skip_hp]; exact hG)
theorem guard_und {all r : List Oper} {o1 : Oper} {k : List Kt} {st : St} {vc : List Prop} {j d : Nat} {want : Bool} (hg : o1.guard = some (j, want)) (hd : dstAt all j = some d) (hx : look st.fr d = some .und)
    (hr : Run c ⟨.ops all r, k, skipSt st o1.dst, vc⟩ G) : Run c ⟨.ops all (o1 :: r), k, st, vc⟩ G := by
  obtain ⟨dst, op, ty, pos, aft, g⟩ := o1
  simp only at hg
  subst hg
  refine ⟨fun β ρ w hS hw hG => ?_⟩
  refine r_guard_undef hd ((hS.fr d) _ hx).1 ?_
  exact hr.run β _ w (skip_sat hS dst) hw (by rw [skip_hp]; exact hG)
theorem nextO_ok (hc : c.Ok) (h : nextO c.E un o = some o') (hv : AllT o'.vc) (hr : Run c o' G) : Run c o G := by
  obtain ⟨cur, k, st, vc⟩ := o
  unfold nextO at h
  simp only at h
  split at h
  · split at h <;> first | (cases h; done) | skip
    · simp only [Option.some.injEq] at h; subst h
      exact ⟨fun β ρ w hS hw hG => wp_skip (hr.run β ρ w hS hw hG)⟩
    · simp only [Option.some.injEq] at h; subst h
      exact ⟨fun β ρ w hS hw hG => wp_label (hr.run β ρ w hS hw hG)⟩
    · simp only [Option.some.injEq] at h; subst h
      exact ⟨fun β ρ w hS hw hG => wp_seq (hr.run β ρ w hS hw hG)⟩
    · simp only [Option.some.injEq] at h; subst h
      exact ⟨fun β ρ w hS hw hG => wp_block (hr.run β ρ w hS hw hG)⟩
    · simp only [Option.some.injEq] at h; subst h
      exact ⟨fun β ρ w hS hw hG => wp_exit (hr.run β ρ w hS hw hG)⟩
    · simp only [Option.some.injEq] at h; subst h
      exact ⟨fun β ρ w hS hw hG => wp_ret (hr.run β ρ w hS hw hG)⟩
    · rename_i id ops d
      cases d with
      | true => cases h
      | false =>
        simp only [cond_false, Option.some.injEq] at h
        subst h
        refine ⟨fun β ρ w hS hw hG => ?_⟩
        have h1 := wp_region (id := id) (hr.run β ρ w hS hw hG)
        rwa [Array.toArray_toList] at h1
    · split at h <;> first | (cases h; done) | skip
      · rename_i e
        simp only [Option.some.injEq] at h; subst h
        exact ⟨fun β ρ w hS hw hG => wp_cond_true ((opd_kn (fun t _ => hS.fr t)) _ e).1 (hr.run β ρ w hS hw hG)⟩
      · rename_i e
        simp only [Option.some.injEq] at h; subst h
        exact ⟨fun β ρ w hS hw hG => wp_cond_false ((opd_kn (fun t _ => hS.fr t)) _ e).1 (hr.run β ρ w hS hw hG)⟩
    · cases un with
      | false => cases h
      | true =>
        simp only [cond_true, Option.some.injEq] at h
        subst h
        exact ⟨fun β ρ w hS hw hG => wp_of_lh (lh_of (hr.run β ρ w hS hw hG))⟩
  · simp only [Option.some.injEq] at h; subst h
    exact ⟨fun β ρ w hS hw hG => r_nil (hr.run β ρ w hS hw hG)⟩
  · split at h
    · rename_i hg
      exact opStep_ok hc hg rfl h hv hr
    · rename_i j want hg
      split at h
      · cases h
      · rename_i d hd
        split at h <;> first | (cases h; done) | skip
        · rename_i x hx
          rcases bif_some h with ⟨hb, rfl⟩ | ⟨hb, rfl⟩
          · exact guard_run hg hd hx hb hr
          · exact guard_skip hg hd hx hb hr
        · rename_i hx
          simp only [Option.some.injEq] at h; subst h
          exact guard_und hg hd hx hr
  · split at h <;> first | (cases h; done) | skip
    · simp only [Option.some.injEq] at h; subst h
      exact ⟨fun β ρ w hS hw hG => hr.run β ρ w hS hw hG⟩
    · simp only [Option.some.injEq] at h; subst h
      exact ⟨fun β ρ w hS hw hG => hr.run β ρ w hS hw hG⟩
    · simp only [Option.some.injEq] at h; subst h
      exact ⟨fun β ρ w hS hw hG => lh_of (hr.run β ρ w hS hw hG)⟩
    · simp only [Option.some.injEq] at h; subst h
      exact ⟨fun β ρ w hS hw hG => hr.run β ρ w hS hw hG⟩
    · simp only [Option.some.injEq] at h; subst h
      exact ⟨fun β ρ w hS hw hG => hr.run β ρ w hS hw hG⟩
    · rcases bif_some h with ⟨hb, rfl⟩ | ⟨hb, rfl⟩
      · exact ⟨fun β ρ w hS hw hG => q_block_hit hb (hr.run β ρ w hS hw hG)⟩
      · exact ⟨fun β ρ w hS hw hG => q_block_miss hb (hr.run β ρ w hS hw hG)⟩
    · rename_i x k
      simp only [Option.some.injEq] at h; subst h
      cases x with
      | code c => exact ⟨fun β ρ w hS hw hG => hr.run β ρ w hS hw hG⟩
      | blk i => exact ⟨fun β ρ w hS hw hG => hr.run β ρ w hS hw hG⟩
      | lp c => exact ⟨fun β ρ w hS hw hG => hr.run β ρ w hS hw hG⟩
theorem exec_vc : ∀ {N : Nat} {o : Out}, AllT (exec c.E un N o).vc → AllT o.vc := by
  intro N
  induction N with
  | zero => intro o h; exact h
  | succ N ih =>
    intro o h
    simp only [exec] at h
    cases hn : nextO c.E un o with
    | none => rw [hn] at h; exact h
    | some o' => rw [hn] at h; exact nextO_vc hn (ih h)
theorem exec_ok (hc : c.Ok) : ∀ {N : Nat} {o : Out}, AllT (exec c.E un N o).vc → Run c (exec c.E un N o) G → Run c o G := by
  intro N
  induction N with
  | zero => intro o _ h; exact h
  | succ N ih =>
    intro o hv h
    simp only [exec] at h hv
    cases hn : nextO c.E un o with
    | none => rw [hn] at h; exact h
    | some o' =>
      rw [hn] at h hv
      exact nextO_ok hc hn (exec_vc hv) (ih hv h)
end
end Go.Proofs.YtpmnjjmngogkkaaGreatDoor
end

section
set_option linter.unusedVariables false
set_option linter.unusedSimpArgs false
namespace Go.Proofs.YtpmnjjmngogkkaaGreatDoor
open Go Go.RowKit
section
variable {c : Cx} {o : Out} {G : Gh} {un : Bool}
theorem t_run (hc : c.Ok) (un : Bool) (N : Nat) (hv : VcOk (exec c.E un N o).vc) (h : Run c (exec c.E un N o) G) : Run c o G := exec_ok hc hv.all h
theorem vc0 {l : List Prop} (h : l = []) : VcOk l := by subst h; exact ⟨trivial⟩
theorem vcs {l ps : List Prop} (h : l = ps) (hp : AllT ps) : VcOk l := by subst h; exact ⟨hp⟩
theorem Sof.up {base : Nat} {hp : List HE} {β : Nat → Nat} {w : World} {S0 : Nat → Prop} (hS : Up S0 w) (hm : Mem base hp β w) : Up (Sof S0 β hp) w :=
  fun k hk => ⟨hS k hk, fun i hi => by have := (hm.low i k hi).2; omega⟩
/-- Other facts instead. -/
theorem t_facts {G' : Gh} (h : ∀ S w, Ext c.w0 w → G.p S w → G'.p S w) (k : Run c o G') : Run c o G :=
  ⟨fun β ρ w hS hw hG => k.run β ρ w hS hw (h _ w hw hG)⟩
def allSV : List (Option SV) → Option (List SV)
  | [] => some []
  | x :: r => match x, allSV r with | some s, some l => some (s :: l) | _, _ => none
def capSV : Nat ⊕ Value → SV
  | .inl b => .one (.ptr b 0)
  | .inr x => .one (.val x)
def callOf (st : St) : Cur → Option (FuncId × List SV × Nat)
  | .ops _ (o1 :: _) => match o1.guard, o1.dst, o1.op with
    | none, some d, .call cl => match cl.callee with
      | .value x => match opd st.fr x with
        | some (.one (.fn f cap)) => match allSV (cl.args.toList.map (opd st.fr)) with
          | some l => some (f, l ++ cap.map capSV, d)
          | none => none
        | _ => none
      | _ => none
    | _, _, _ => none
  | _ => none
def isCall (f : FuncId) (o : Out) : Bool := match callOf o.st o.cur with | some (g, _, _) => Nat.beq g f | none => false
def callArgs (o : Out) : List SV := match callOf o.st o.cur with | some (_, l, _) => l | none => []
def callNext (o : Out) (s : SV) : Out := match o.cur with | .ops all (o1 :: r) => ⟨.ops all r, o.k, ⟨(o1.dst.getD 0, s) :: o.st.fr, o.st.hp⟩, []⟩ | _ => o
theorem allSV_ok {β : Nat → Nat} {m : Nat} {fr : List (Nat × SV)} {ρ : Fr} (hk : ∀ d, Kn β m (look fr d) (ρ d)) : ∀ {xs : List Operand} {l : List SV}, allSV (xs.map (opd fr)) = some l → xs.map (ev ρ) = l.map (SV.den β) := by
  intro xs
  induction xs with
  | nil => intro l h; simp only [List.map_nil, allSV, Option.some.injEq] at h; subst h; rfl
  | cons x r ih =>
    intro l h
    simp only [List.map_cons, allSV] at h
    split at h <;> first | (cases h; done) | skip
    rename_i s l' e1 e2
    simp only [Option.some.injEq] at h
    subst h
    rw [List.map_cons, List.map_cons, ih e2, (opd_kn (fun t _ => hk t) _ e1).1]
theorem capSV_den {β : Nat → Nat} (l : List (Nat ⊕ Value)) : (l.map capSV).map (SV.den β) = l.map (capDen β) := by
  rw [List.map_map]
  refine List.map_congr_left fun x _ => ?_
  cases x <;> rfl
theorem kQ_panic {P : Program} {n : Nat} {Q : Post} {ch : List PanicEntry} {ρ : Fr} {w : World} : ∀ {k : List Kt}, Q (.panic ch) ρ w → kQ P n Q k (.panic ch) ρ w := by
  intro k
  induction k with
  | nil => exact id
  | cons x k ih => intro h; cases x <;> exact ih h
/-- What a call is, where a run has stopped. -/
theorem call_run {f : FuncId} [ci : CallI c.P f] {β : Nat → Nat} {ρ : Fr} {w : World} (hf : isCall f o = true) (hS : Sat c.w0.heap.size o.st β ρ w) :
    ∃ all o1 r d, o.cur = .ops all (o1 :: r) ∧ o1.guard = none ∧ o1.dst = some d ∧ (∀ s, callNext o s = ⟨.ops all r, o.k, ⟨(d, s) :: o.st.fr, o.st.hp⟩, []⟩) ∧
      (execOp (ev ρ) o1).run c.P w = .ok (.enter f ((callArgs o).map (SV.den β)).toArray) w := by
  unfold isCall at hf
  cases hco : callOf o.st o.cur with
  | none => rw [hco] at hf; cases hf
  | some x =>
    obtain ⟨g, l, d⟩ := x
    rw [hco] at hf
    obtain rfl : g = f := Nat.eq_of_beq_eq_true hf
    have hargs : callArgs o = l := by unfold callArgs; rw [hco]
    unfold callOf at hco
    split at hco <;> first | (cases hco; done) | skip
    rename_i all o1 r hcur
    split at hco <;> first | (cases hco; done) | skip
    rename_i d' cl hg hd hop
    split at hco <;> first | (cases hco; done) | skip
    rename_i x hcl
    split at hco <;> first | (cases hco; done) | skip
    rename_i f' cap hx
    split at hco <;> first | (cases hco; done) | skip
    rename_i l' hl
    simp only [Option.some.injEq, Prod.mk.injEq] at hco
    obtain ⟨rfl, rfl, rfl⟩ := hco
    refine ⟨all, o1, r, d', hcur, hg, hd, fun s => by unfold callNext; rw [hcur]; simp only [hd, Option.getD_some], ?_⟩
    have h1 := (opd_kn (ρ := ρ) (fun t _ => hS.fr t) _ hx).1
    have h2 := allSV_ok hS.fr hl
    rw [hargs, List.map_append, capSV_den, ← h2]
    obtain ⟨dst, op, ty, pos, aft, g⟩ := o1
    simp only at hop hg hd
    subst hop
    obtain ⟨callee, args, ts⟩ := cl
    simp only at hcl
    subst hcl
    simp [execOp, resolve, Deferred.ofValue, h1, SV.den, Ch.den, invoke, ci.run]
theorem t_call {α : Type} (f : FuncId) [ci : CallI c.P f] (hc : c.Ok) (pat : α → SV) (pre : α → Prop) (Δ : α → Gh) (hf : isCall f o = true)
    (h : ∀ β S w, Up S w → (∀ k, S k → c.S0 k) → Ext c.w0 w → G.p S w → ∃ args, (callArgs o).map (SV.den β) = args ∧ Gives c.P f args w fun v w' => Ext w w' ∧ ∃ a, v = (pat a).den β ∧ (pat a).Ok 0 ∧ pre a ∧ (Δ a).p S w')
    (hn : ∀ a, pre a → Run c (callNext o (pat a)) ((Δ a).and G)) : Run c o G := by
  refine ⟨fun β ρ w hS hw hG => ?_⟩
  obtain ⟨all, o1, r, d, hcur, hg, hd, hnx, hr⟩ := call_run hf hS
  obtain ⟨args, ha, hgv⟩ := h β _ w (Sof.up (hc.up.to hw) hS.mem) (fun k hk => hk.1) hw hG
  rw [hcur]
  show WpR c.P c.n all (kQ c.P c.n c.Q o.k) (o1 :: r) ρ w
  refine r_step hg ?_
  unfold Stp
  rw [hr, ha]
  refine hgv.mono ?_
  rintro v w' ⟨hk, a, rfl, hok, hp, hΔ⟩
  have h1 := hn a hp
  rw [hnx] at h1
  have h2 := h1.run β _ w' ((hS.to hk).put rfl (hok.le (Nat.zero_le _))) (hw.trans hk) ⟨hΔ, G.keep hG (.of hk)⟩
  rw [hd]
  exact h2
/-- A test. -/
def condOf (st : St) : Cur → Option (Prop × Code × Code)
  | .code (.cond x a b) => match opd st.fr x with | some (.one (.tp p)) => some (p, a, b) | _ => none
  | _ => none
def isCond (o : Out) : Bool := (condOf o.st o.cur).isSome
def condP (o : Out) : Prop := match condOf o.st o.cur with | some (p, _, _) => p | none => False
def condNext (o : Out) (b : Bool) : Out := match condOf o.st o.cur with | some (_, x, y) => ⟨.code (bif b then x else y), o.k, o.st, []⟩ | none => o
theorem t_if {p : Prop} (hc : isCond o = true) (hp : condP o = p) (ht : p → Run c (condNext o true) G) (hf : ¬ p → Run c (condNext o false) G) : Run c o G := by
  refine ⟨fun β ρ w hS hw hG => ?_⟩
  unfold isCond at hc
  cases hco : condOf o.st o.cur with
  | none => rw [hco] at hc; cases hc
  | some x =>
    obtain ⟨q, a, b⟩ := x
    have e1 : condP o = q := by unfold condP; rw [hco]
    have e2 : condNext o true = ⟨.code a, o.k, o.st, []⟩ := by unfold condNext; rw [hco]; rfl
    have e3 : condNext o false = ⟨.code b, o.k, o.st, []⟩ := by unfold condNext; rw [hco]; rfl
    rw [e1] at hp
    subst hp
    rw [e2] at ht
    rw [e3] at hf
    unfold condOf at hco
    split at hco <;> first | (cases hco; done) | skip
    rename_i x a' b' hcur
    split at hco <;> first | (cases hco; done) | skip
    rename_i p' hx
    simp only [Option.some.injEq, Prod.mk.injEq] at hco
    obtain ⟨rfl, rfl, rfl⟩ := hco
    rw [hcur]
    exact wp_cond_dec ((opd_kn (fun t _ => hS.fr t) _ hx).1) (fun h => (ht h).run β ρ w hS hw hG) (fun h => (hf h).run β ρ w hS hw hG)
theorem t_yes {p : Prop} (hc : isCond o = true) (hp : condP o = p) (h : p) (ht : Run c (condNext o true) G) : Run c o G := t_if hc hp (fun _ => ht) fun n => absurd h n
theorem t_no {p : Prop} (hc : isCond o = true) (hp : condP o = p) (h : ¬ p) (ht : Run c (condNext o false) G) : Run c o G := t_if hc hp (fun n => absurd n h) fun _ => ht
def setSlot (o : Out) (d : Nat) (s : SV) : Out := ⟨o.cur, o.k, ⟨(d, s) :: o.st.fr, o.st.hp⟩, []⟩
/-- A slot's value, written in another way. -/
noncomputable def slotV (β : Nat → Nat) (st : St) (d : Nat) : Option Value := (look st.fr d).map (SV.den β)
theorem t_set (d : Nat) (s : SV) (h : ∀ β, slotV β o.st d = some (s.den β)) (hok : s.Ok 0) (k : Run c (setSlot o d s) G) : Run c o G := by
  refine ⟨fun β ρ w hS hw hG => ?_⟩
  have h1 := h β
  unfold slotV at h1
  cases hl : look o.st.fr d with
  | none => rw [hl] at h1; cases h1
  | some s0 =>
    rw [hl] at h1
    simp only [Option.map_some, Option.some.injEq] at h1
    have h2 := ((hS.fr d) _ hl).1
    rw [h1] at h2
    have h3 := k.run β (upd ρ d (s.den β)) w (hS.put rfl (hok.le (Nat.zero_le _))) hw hG
    rwa [upd_self h2] at h3
/-- The function's end. -/
noncomputable def resSV (E : Env) (st : St) : List ResultVar → Option (List SV)
  | [] => some []
  | .tmp t :: r => match look st.fr t, resSV E st r with | some s, some l => some (s :: l) | _, _ => none
  | .cell a T :: r => match effLoad E st.hp T (look st.fr a), resSV E st r with | some (.put s _), some l => some (s :: l) | _, _ => none
theorem resSV_ok {base : Nat} {β : Nat → Nat} {ρ : Fr} {w : World} {st : St} (hE : EnvOk c.P c.E) (hS : Sat base st β ρ w) : ∀ {rs : List ResultVar} {l : List SV}, resSV c.E st rs = some l → resAll c.P ρ w rs (l.map (SV.den β)) := by
  intro rs
  induction rs with
  | nil => intro l h; simp only [resSV, Option.some.injEq] at h; subst h; rfl
  | cons r rs ih =>
    intro l h
    cases r with
    | tmp t =>
      simp only [resSV] at h
      split at h <;> first | (cases h; done) | skip
      rename_i s l' e1 e2
      simp only [Option.some.injEq] at h
      subst h
      exact ⟨_, _, ((hS.fr t) _ e1).1.symm, ih e2, rfl⟩
    | cell a T =>
      simp only [resSV] at h
      split at h <;> first | (cases h; done) | skip
      rename_i s vc l' e1 e2
      simp only [Option.some.injEq] at h
      subst h
      refine ⟨_, _, ?_, ih e2, rfl⟩
      obtain ⟨h1, h2⟩ := effLoad_ok (P := c.P) (ty := 0) (x := .tmp a) hE hS.mem (opd_kn (fun t _ => hS.fr t)) e1
      have h3 := h1 none "" #[] none
      unfold effLoad at e1
      split at e1 <;> first | (cases e1; done) | skip
      rename_i b o ha
      have h4 : ρ a = .pointer (some ⟨β b, o, none⟩) := ((hS.fr a) _ ha).1
      refine ⟨_, h4, ?_⟩
      have h5 : ev ρ (.tmp a) = .pointer (some ⟨β b, o, none⟩) := h4
      simp only [execOp, h5, Instr.loadAt, Instr.sureAddr, Sem.run_bind, Sem.run_pure, Result.andThen] at h3
      cases hl : (loadVar T ⟨β b, o, none⟩).run c.P w with
      | ok v w2 => rw [hl] at h3; simp only [Result.ok.injEq, Next.value.injEq] at h3; rw [h3.1, h3.2]
      | halt x w2 => rw [hl] at h3; cases h3
def isEnd (o : Out) : Bool := match o.cur, o.k with
  | .ex .ret, [] => true
  | .ex .normal, [] => true
  | _, _ => false
noncomputable def resV' (E : Env) (rs : List ResultVar) (st : St) (β : Nat → Nat) : Option Value := (resSV E st rs).map fun l => shut (l.map (SV.den β))
theorem t_retQ {fn : Func} {Ψ : Value → World → Prop} {rs : List ResultVar} (v : Value) (hc : c.Ok) (hQ : c.Q = endQ c.P fn Ψ) (hrs : fn.results.toList = rs) (he : isEnd o = true) (hv : ∀ β, resV' c.E rs o.st β = some v)
    (h : ∀ S w, (∀ k, S k → c.S0 k) → Ext c.w0 w → G.p S w → Ψ v w) : Run c o G := by
  refine ⟨fun β ρ w hS hw hG => ?_⟩
  have h1 := hv β
  unfold resV' at h1
  cases hl : resSV c.E o.st rs with
  | none => rw [hl] at h1; cases h1
  | some l =>
    rw [hl] at h1
    simp only [Option.map_some, Option.some.injEq] at h1
    have h2 := resSV_ok hc.env hS hl
    have h3 := h _ w (fun k hk => hk.1) hw hG
    have hend : ∀ e, e = Exit.ret ∨ e = Exit.normal → endQ c.P fn Ψ e ρ w := by
      rintro e (rfl | rfl) <;> exact ⟨_, hrs ▸ h2, h1 ▸ h3⟩
    unfold isEnd at he
    split at he <;> first | (cases he; done) | skip
    · rename_i e1 e2
      rw [e1, e2]
      show c.Q .ret ρ w
      rw [hQ]
      exact hend _ (.inl rfl)
    · rename_i e1 e2
      rw [e1, e2]
      show c.Q .normal ρ w
      rw [hQ]
      exact hend _ (.inr rfl)
end
abbrev Cx.fn (P : Program) (fn : Func) (E : Env) (w0 : World) (S0 : Nat → Prop) (Ψ : Value → World → Prop) : Cx := ⟨P, fn.ntmps, E, w0, S0, endQ P fn Ψ⟩
theorem t_ret {P : Program} {fn : Func} {E : Env} {w0 : World} {S0 : Nat → Prop} {Ψ : Value → World → Prop} {rs : List ResultVar} {o : Out} {G : Gh} (v : Value) (hc : (Cx.fn P fn E w0 S0 Ψ).Ok) (hrs : fn.results.toList = rs) (he : isEnd o = true) (hv : ∀ β, resV' E rs o.st β = some v)
    (h : ∀ S w, (∀ k, S k → S0 k) → Ext w0 w → G.p S w → Ψ v w) : Run (Cx.fn P fn E w0 S0 Ψ) o G := t_retQ v hc rfl hrs he hv h
/-- A function's beginning. -/
def frOf : Nat → List SV → List (Nat × SV)
  | _, [] => []
  | i, s :: r => (i, s) :: frOf (i + 1) r
theorem frOf_look {β : Nat → Nat} {m : Nat} : ∀ {l : List SV} {i d : Nat}, (∀ s ∈ l, s.Ok m) → Kn β m (look (frOf i l) d) (if i ≤ d then (l.map (SV.den β)).getD (d - i) undef else undef) := by
  intro l
  induction l with
  | nil => intro i d _ s hs; cases hs
  | cons x r ih =>
    intro i d hok s hs
    simp only [frOf] at hs
    rw [look_cons] at hs
    split at hs
    · rename_i e
      subst e
      simp only [Option.some.injEq] at hs
      subst hs
      refine ⟨by simp, hok _ (List.mem_cons_self ..)⟩
    · rename_i e
      have h1 := ih (i := i + 1) (d := d) (fun s hs => hok s (List.mem_cons_of_mem _ hs)) s hs
      refine ⟨?_, h1.2⟩
      rw [← h1.1]
      by_cases hd : i + 1 ≤ d
      · rw [if_pos hd, if_pos (by omega), List.map_cons, show d - i = (d - (i + 1)) + 1 by omega]
        rfl
      · rw [if_neg hd, if_neg (by omega)]
def SVsOk : List SV → Prop
  | [] => True
  | s :: r => s.Ok 0 ∧ SVsOk r
theorem SVsOk.all : ∀ {l : List SV}, SVsOk l → ∀ s ∈ l, s.Ok 0 := by
  intro l
  induction l with
  | nil => intro _ s hs; cases hs
  | cons x r ih =>
    intro h s hs
    rcases List.mem_cons.1 hs with rfl | hs
    · exact h.1
    · exact ih h.2 s hs
theorem sat_start {base : Nat} {w : World} {l : List SV} (hok : SVsOk l) : Sat base ⟨frOf 0 l, []⟩ (fun _ => 0) (fun i => (l.map (SV.den fun _ => 0)).getD i undef) w := by
  refine ⟨fun d s hs => ?_, ⟨fun i T l hi => by simp at hi, fun i T s v n cs hi => by simp at hi, fun i k hk => by simp [mineAt] at hk, fun i j k hk => by simp [mineAt] at hk⟩⟩
  have h := frOf_look (β := fun _ => 0) (m := 0) (i := 0) (d := d) hok.all s hs
  simpa using h
theorem t_gives {P : Program} {E : Env} {S0 : Nat → Prop} {f : FuncId} {fn : Func} {code : Code} {l : List SV} {args : List Value} {w : World} {Ψ : Value → World → Prop} {G : Gh} (hf : P.funcs[f]? = some fn) (hb : fn.body = some code) (hok : codeOk fn.ntmps code = true)
    (hn : Nat.ble args.length fn.ntmps = true) (hl : SVsOk l) (ha : l.map (SV.den fun _ => 0) = args) (hG : G.p S0 w)
    (h : Run (Cx.fn P fn E w S0 Ψ) ⟨.code code, [], ⟨frOf 0 l, []⟩, []⟩ G) : Gives P f args w Ψ := by
  refine gives_of hf hb hok hn ?_
  subst ha
  exact h.run _ _ w (sat_start hl) .refl (G.mono hG fun k _ hk => ⟨hk, fun i hi => by simp [mineAt] at hi⟩)
end Go.Proofs.YtpmnjjmngogkkaaGreatDoor
end

section
set_option linter.unusedVariables false
set_option linter.unusedSimpArgs false
namespace Go.Proofs.YtpmnjjmngogkkaaGreatDoor
open Go Go.RowKit
/-- What an entry says. -/
inductive HV where
  | blk (T : TypeId) (cs : List Value)
  | row (T : TypeId) (s : Nat) (v : Value) (n : Nat) (cs : List Value)
  | gone
noncomputable def HE.den (β : Nat → Nat) : HE → HV
  | .blk T l => .blk T (cellsL β l)
  | .row T s v n cs => .row T s v n cs
  | .gone => .gone
/-- What is kept of the entries: those that the other list forgets are forgotten. -/
noncomputable def keepH (β : Nat → Nat) : List HE → List HE → List HV
  | _, [] => []
  | [], _ :: r => .gone :: keepH β [] r
  | _ :: q, .gone :: r => .gone :: keepH β q r
  | h :: q, .blk _ _ :: r => h.den β :: keepH β q r
  | h :: q, .row _ _ _ _ _ :: r => h.den β :: keepH β q r
noncomputable def frV (β : Nat → Nat) (fr : List (Nat × SV)) : List (Nat × SV) → List (Option Value)
  | [] => []
  | (d, _) :: r => (look fr d).map (SV.den β) :: frV β fr r
noncomputable def frV' (β : Nat → Nat) : List (Nat × SV) → List (Option Value)
  | [] => []
  | (_, s) :: r => some (s.den β) :: frV' β r
/-- A state says no more than another one. -/
def SubS (st st' : St) : Prop := ∀ β, frV β st.fr st'.fr = frV' β st'.fr ∧ keepH β st.hp st'.hp = st'.hp.map (HE.den β) ∧ st'.hp.length ≤ st.hp.length
theorem subS {st st' : St} (h1 : ∀ β, frV β st.fr st'.fr = frV' β st'.fr) (h2 : ∀ β, keepH β st.hp st'.hp = st'.hp.map (HE.den β)) (h3 : Nat.ble st'.hp.length st.hp.length = true) : SubS st st' := fun β => ⟨h1 β, h2 β, Nat.le_of_ble_eq_true h3⟩
/-- The parts of a state are such as they should be. -/
def HE.Ok (m : Nat) : HE → Prop
  | .blk _ l => ∀ c ∈ l, c.Ok m
  | _ => True
def StOk (st : St) : Prop := (∀ d s, look st.fr d = some s → s.Ok st.hp.length) ∧ ∀ h ∈ st.hp, h.Ok st.hp.length
theorem frV_look {β : Nat → Nat} {fr : List (Nat × SV)} : ∀ {fr' : List (Nat × SV)}, frV β fr fr' = frV' β fr' → ∀ d s', look fr' d = some s' → ∃ s, look fr d = some s ∧ s.den β = s'.den β := by
  intro fr'
  induction fr' with
  | nil => intro _ d s' h; cases h
  | cons p r ih =>
    obtain ⟨i, x⟩ := p
    intro h d s' hs
    simp only [frV, frV', List.cons.injEq] at h
    rw [look_cons] at hs
    split at hs
    · rename_i e
      subst e
      simp only [Option.some.injEq] at hs
      subst hs
      cases hl : look fr i with
      | none => rw [hl] at h; cases h.1
      | some s => rw [hl] at h; exact ⟨s, rfl, by simpa using h.1⟩
    · exact ih h.2 d s' hs
theorem look_mem {fr : List (Nat × SV)} : ∀ {d : Nat} {s : SV}, look fr d = some s → (d, s) ∈ fr := by
  induction fr with
  | nil => intro d s h; cases h
  | cons p r ih =>
    obtain ⟨i, x⟩ := p
    intro d s h
    rw [look_cons] at h
    split at h
    · rename_i e
      subst e
      simp only [Option.some.injEq] at h
      subst h
      exact List.mem_cons_self ..
    · exact List.mem_cons_of_mem _ (ih h)
theorem keepH_get {β : Nat → Nat} : ∀ {hp hp' : List HE}, keepH β hp hp' = hp'.map (HE.den β) → hp'.length ≤ hp.length → ∀ (i : Nat) (h' : HE), hp'[i]? = some h' → h' = .gone ∨ ∃ h, hp[i]? = some h ∧ h.den β = h'.den β := by
  intro hp hp'
  induction hp' generalizing hp with
  | nil => intro _ _ i h' hi; simp at hi
  | cons x r ih =>
    intro h hl i h' hi
    cases hp with
    | nil => simp at hl
    | cons y q =>
      have hl' : r.length ≤ q.length := by simpa using hl
      cases i with
      | zero =>
        simp only [List.getElem?_cons_zero, Option.some.injEq] at hi
        subst hi
        cases x with
        | gone => exact .inl rfl
        | blk T l => simp only [keepH, List.map_cons, List.cons.injEq] at h; exact .inr ⟨y, rfl, h.1⟩
        | row T s v n cs => simp only [keepH, List.map_cons, List.cons.injEq] at h; exact .inr ⟨y, rfl, h.1⟩
      | succ i =>
        simp only [List.getElem?_cons_succ] at hi ⊢
        cases x <;> simp only [keepH, List.map_cons, List.cons.injEq] at h <;> exact ih h.2 hl' i h' hi
theorem mine_den {β : Nat → Nat} {h h' : HE} {b : Nat} (e : h.den β = h'.den β) : h.mine b = h'.mine b := by
  cases h <;> cases h' <;> simp only [HE.den, HV.row.injEq, reduceCtorEq] at e <;> first | rfl | (obtain ⟨rfl, rfl, rfl, rfl, rfl⟩ := e; rfl)
theorem Sat.sub {base : Nat} {st st' : St} {β : Nat → Nat} {ρ : Fr} {w : World} (h : Sat base st β ρ w) (hs : SubS st st') (hok : StOk st') : Sat base st' β ρ w ∧ ∀ S0 k, Sof S0 β st.hp k → Sof S0 β st'.hp k := by
  obtain ⟨h1, h2, h3⟩ := hs β
  have hm : ∀ i k, mineAt β st'.hp i = some k → mineAt β st.hp i = some k := by
    intro i k hk
    unfold mineAt at hk ⊢
    cases hi : st'.hp[i]? with
    | none => rw [hi] at hk; cases hk
    | some h' =>
      rw [hi] at hk
      rcases keepH_get h2 h3 i h' hi with rfl | ⟨x, hx, hd⟩
      · cases hk
      · rw [hx]
        simp only [Option.bind_some] at hk ⊢
        rw [mine_den hd]
        exact hk
  refine ⟨⟨fun d s' hs' => ?_, ⟨?_, ?_, ?_, ?_⟩⟩, fun S0 k hk => ⟨hk.1, fun i hi => hk.2 i (hm i k hi)⟩⟩
  · obtain ⟨s, hl, hd⟩ := frV_look h1 d s' hs'
    exact ⟨((h.fr d) s hl).1.trans hd, hok.1 _ _ hs'⟩
  · intro i T l hi
    rcases keepH_get h2 h3 i _ hi with e | ⟨x, hx, hd⟩
    · cases e
    · cases x with
      | blk T' l' =>
        simp only [HE.den, HV.blk.injEq] at hd
        obtain ⟨rfl, hd⟩ := hd
        rw [← hd]
        exact ⟨(h.mem.blk i T' l' hx).1, hok.2 _ (List.mem_of_getElem? hi)⟩
      | row T s v n cs => cases hd
      | gone => cases hd
  · intro i T s v n cs hi
    rcases keepH_get h2 h3 i _ hi with e | ⟨x, hx, hd⟩
    · cases e
    · cases x with
      | blk T' l' => cases hd
      | row T' s' v' n' cs' =>
        simp only [HE.den, HV.row.injEq] at hd
        obtain ⟨rfl, rfl, rfl, rfl, rfl⟩ := hd
        exact h.mem.row i _ _ _ _ _ hx
      | gone => cases hd
  · exact fun i k hk => h.mem.low i k (hm i k hk)
  · exact fun i j k hi hj => h.mem.apart i j k (hm i k hi) (hm j k hj)
section
variable {c : Cx} {o : Out} {G : Gh} {ι : Type}
/-- A state and facts, for one of many cases. -/
def RelI (c : Cx) (st' : ι → St) (GI : ι → Gh) (i : ι) (ρ : Fr) (w : World) : Prop := ∃ β, Sat c.w0.heap.size (st' i) β ρ w ∧ Ext c.w0 w ∧ (GI i).p (Sof c.S0 β (st' i).hp) w
def MidR (c : Cx) (st' : ι → St) (GI : ι → Gh) (pre : ι → Prop) : Fr → World → Prop := fun ρ w => ∃ i, pre i ∧ RelI c st' GI i ρ w
def LoopR (c : Cx) (st' : ι → St) (GI : ι → Gh) (pre : ι → Prop) (m : ι → Nat) (i : ι) : Fr → World → Prop := fun ρ w => ∃ i', pre i' ∧ m i' < m i ∧ RelI c st' GI i' ρ w
abbrev Cx.sub (c : Cx) (R : Fr → World → Prop) (k : List Kt) : Cx := ⟨c.P, c.n, c.E, c.w0, c.S0, thenQ R (kQ c.P c.n c.Q k)⟩
theorem Cx.Ok.sub {R : Fr → World → Prop} {k : List Kt} (h : c.Ok) : (c.sub R k).Ok := ⟨h.env, h.up⟩
theorem rel_of {st' : ι → St} {GI : ι → Gh} {β : Nat → Nat} {ρ : Fr} {w : World} (i : ι) (hS : Sat c.w0.heap.size o.st β ρ w) (hw : Ext c.w0 w) (hG : G.p (Sof c.S0 β o.st.hp) w) (hsub : SubS o.st (st' i)) (hok : ∀ S w, Ext c.w0 w → G.p S w → StOk (st' i)) (hg : ∀ S w, Ext c.w0 w → G.p S w → (GI i).p S w) :
    RelI c st' GI i ρ w := by
  obtain ⟨h1, h2⟩ := hS.sub hsub (hok _ _ hw hG)
  exact ⟨β, h1, hw, (GI i).mono (hg _ _ hw hG) fun k _ hk => h2 c.S0 k hk⟩
def isNorm (o : Out) : Bool := match o.cur, o.k with | .ex .normal, [] => true | _, _ => false
theorem isNorm_eq (h : isNorm o = true) : o.cur = .ex .normal ∧ o.k = [] := by
  unfold isNorm at h
  split at h
  · rename_i h1 h2; exact ⟨h1, h2⟩
  · cases h
theorem t_join {st' : ι → St} {GI : ι → Gh} {pre : ι → Prop} {k : List Kt} (i : ι) (he : isNorm o = true) (hp : pre i) (hsub : SubS o.st (st' i)) (hok : ∀ S w, Ext c.w0 w → G.p S w → StOk (st' i)) (hg : ∀ S w, Ext c.w0 w → G.p S w → (GI i).p S w) :
    Run (c.sub (MidR c st' GI pre) k) o G := by
  refine ⟨fun β ρ w hS hw hG => ?_⟩
  obtain ⟨h1, h2⟩ := isNorm_eq he
  rw [h1, h2]
  exact ⟨i, hp, rel_of i hS hw hG hsub hok hg⟩
theorem t_again {st' : ι → St} {GI : ι → Gh} {pre : ι → Prop} {m : ι → Nat} {j : ι} {k : List Kt} (i : ι) (he : isNorm o = true) (hp : pre i) (hlt : m i < m j) (hsub : SubS o.st (st' i)) (hok : ∀ S w, Ext c.w0 w → G.p S w → StOk (st' i)) (hg : ∀ S w, Ext c.w0 w → G.p S w → (GI i).p S w) :
    Run (c.sub (LoopR c st' GI pre m j) k) o G := by
  refine ⟨fun β ρ w hS hw hG => ?_⟩
  obtain ⟨h1, h2⟩ := isNorm_eq he
  rw [h1, h2]
  exact ⟨i, hp, hlt, rel_of i hS hw hG hsub hok hg⟩
/-- The run leaves the part. -/
def isOut (o : Out) : Bool := match o.cur, o.k with | .ex .normal, _ => false | .ex _, [] => true | _, _ => false
theorem t_out {R : Fr → World → Prop} {k : List Kt} (he : isOut o = true) (h : Run c ⟨o.cur, k, o.st, []⟩ G) : Run (c.sub R k) o G := by
  refine ⟨fun β ρ w hS hw hG => ?_⟩
  have h1 := h.run β ρ w hS hw hG
  unfold isOut at he
  cases hc : o.cur with
  | code x => rw [hc] at he; cases he
  | ops all r => rw [hc] at he; cases he
  | ex e =>
    cases hk : o.k with
    | cons x r => rw [hc, hk] at he; cases e <;> cases he
    | nil =>
      rw [hc, hk] at he
      rw [hc] at h1
      cases e with
      | normal => cases he
      | _ => exact h1
theorem curX_mono {P : Program} {n : Nat} {Q Q' : Post} (hq : ∀ e ρ w, Q e ρ w → Q' e ρ w) {ρ : Fr} {w : World} : ∀ {cur : Cur}, curX P n Q cur ρ w → curX P n Q' cur ρ w := by
  intro cur h
  cases cur with
  | code x => exact wp_mono h hq
  | ops all rest =>
    show WpR P n all Q' rest ρ w
    have h' : WpR P n all Q rest ρ w := h
    unfold WpR at *
    intro hok D a hm
    refine wpList_mono ?_ _ _ _ (h' hok D a hm)
    rintro e a w ⟨ρ', hm', hq'⟩
    exact ⟨ρ', hm', hq _ _ _ hq'⟩
  | ex e => exact hq _ _ _ h
theorem t_mid (st' : ι → St) (GI : ι → Gh) (pre : ι → Prop) (h1 : Run (c.sub (MidR c st' GI pre) o.k) ⟨o.cur, [], o.st, []⟩ G) (h2 : ∀ i, pre i → Run c ⟨.ex .normal, o.k, st' i, []⟩ (GI i)) : Run c o G := by
  refine ⟨fun β ρ w hS hw hG => ?_⟩
  refine curX_mono ?_ (h1.run β ρ w hS hw hG)
  intro e ρ' w' hq
  cases e with
  | normal =>
    obtain ⟨i, hp, β', hS', hw', hG'⟩ := hq
    exact (h2 i hp).run β' ρ' w' hS' hw' hG'
  | _ => exact hq
def isLoop (o : Out) : Bool := match o.cur with | .code (.loop _) => true | _ => false
def loopBody (o : Out) : Code := match o.cur with | .code (.loop c) => c | _ => .skip
theorem t_loop (st' : ι → St) (GI : ι → Gh) (pre : ι → Prop) (m : ι → Nat) (i : ι) (he : isLoop o = true) (hp : pre i) (hsub : SubS o.st (st' i)) (hok : ∀ S w, Ext c.w0 w → G.p S w → StOk (st' i)) (hg : ∀ S w, Ext c.w0 w → G.p S w → (GI i).p S w)
    (hb : ∀ i, pre i → Run (c.sub (LoopR c st' GI pre m i) o.k) ⟨.code (loopBody o), [], st' i, []⟩ (GI i)) : Run c o G := by
  refine ⟨fun β ρ w hS hw hG => ?_⟩
  have hrel := rel_of i hS hw hG hsub hok hg
  unfold isLoop at he
  split at he <;> first | (cases he; done) | skip
  rename_i x hx
  have hbd : loopBody o = x := by unfold loopBody; rw [hx]
  rw [hx]
  show Wp c.P c.n (.loop x) (kQ c.P c.n c.Q o.k) ρ w
  have key : ∀ N i ρ w, m i = N → pre i → RelI c st' GI i ρ w → LH c.P c.n x (kQ c.P c.n c.Q o.k) ρ w := by
    intro N
    induction N using Nat.strongRecOn with
    | _ N ih =>
      intro i ρ w hm hp ⟨β, hS, hw, hG⟩
      have h1 := (hb i hp).run β ρ w hS hw hG
      rw [hbd] at h1
      refine lh_of (wp_mono h1 ?_)
      intro e ρ' w' hq
      cases e with
      | normal =>
        obtain ⟨i', hp', hlt, hr⟩ := hq
        exact ih (m i') (by omega) i' ρ' w' rfl hp' hr
      | _ => exact hq
  exact wp_of_lh (key _ i ρ w rfl hp hrel)
end
end Go.Proofs.YtpmnjjmngogkkaaGreatDoor
end

section
namespace Go.Proofs.YtpmnjjmngogkkaaGreatDoor
open Go
theorem ty2 : TyOk Tryz.prog 2 ⟨1, 8, false, zeroD (Go.Value.int Go.IntKind.i64 0), .int Go.IntKind.i64⟩ := tyOk_mk (inferInstance : TyI Tryz.prog 2 1 8 (Go.Value.int Go.IntKind.i64 0) false) rfl (Tryz.underlying2)
theorem ty3 : TyOk Tryz.prog 3 ⟨1, 8, false, zeroD (Go.Value.int Go.IntKind.i64 0), .int Go.IntKind.i64⟩ := tyOk_mk (inferInstance : TyI Tryz.prog 3 1 8 (Go.Value.int Go.IntKind.i64 0) false) rfl (Tryz.underlying3)
theorem ty4 : TyOk Tryz.prog 4 ⟨1, 1, false, zeroD (Go.Value.bool false), .bool⟩ := tyOk_mk (inferInstance : TyI Tryz.prog 4 1 1 (Go.Value.bool false) false) rfl (Tryz.underlying4)
theorem ty5 : TyOk Tryz.prog 5 ⟨1, 1, false, zeroD (Go.Value.int Go.IntKind.u8 0), .int Go.IntKind.u8⟩ := tyOk_mk (inferInstance : TyI Tryz.prog 5 1 1 (Go.Value.int Go.IntKind.u8 0) false) rfl (Tryz.underlying5)
theorem ty9 : TyOk Tryz.prog 9 ⟨1, 16, false, zeroD (Go.Value.string { data := #[] }), .str⟩ := tyOk_mk (inferInstance : TyI Tryz.prog 9 1 16 (Go.Value.string { data := #[] }) false) rfl (Tryz.underlying9)
theorem ty26 : TyOk Tryz.prog 26 ⟨2, 32, true, zeroD (Go.Value.agg #[Go.Value.bool false, Go.Value.slice none 0 0]), .struct [(0, 1, false), (1, 1, false)]⟩ := tyOk_mk (inferInstance : TyI Tryz.prog 26 2 32 (Go.Value.agg #[Go.Value.bool false, Go.Value.slice none 0 0]) true) rfl (⟨_, Tryz.underlying26, by kernel_rfl, fun w => by kernel_rfl⟩)
theorem ty29 : TyOk Tryz.prog 29 ⟨1, 24, false, zeroD (Go.Value.slice none 0 0), .slice 3⟩ := tyOk_mk (inferInstance : TyI Tryz.prog 29 1 24 (Go.Value.slice none 0 0) false) rfl (Tryz.underlying29)
theorem ty31 : TyOk Tryz.prog 31 ⟨2, 32, true, zeroD (Go.Value.agg #[Go.Value.bool false, Go.Value.slice none 0 0]), .struct [(0, 1, false), (1, 1, false)]⟩ := tyOk_mk (inferInstance : TyI Tryz.prog 31 2 32 (Go.Value.agg #[Go.Value.bool false, Go.Value.slice none 0 0]) true) rfl (⟨_, Tryz.underlying31, by kernel_rfl, fun w => by kernel_rfl⟩)
theorem ty34 : TyOk Tryz.prog 34 ⟨3, 56, true, zeroD (Go.Value.agg #[Go.Value.bool false, Go.Value.slice none 0 0, Go.Value.slice none 0 0]), .struct [(0, 2, true), (2, 1, false)]⟩ := tyOk_mk (inferInstance : TyI Tryz.prog 34 3 56 (Go.Value.agg #[Go.Value.bool false, Go.Value.slice none 0 0, Go.Value.slice none 0 0]) true) rfl (⟨_, Tryz.underlying34, by kernel_rfl, fun w => by kernel_rfl⟩)
theorem ty38 : TyOk Tryz.prog 38 ⟨1, 8, false, zeroD (Go.Value.int Go.IntKind.i64 0), .int Go.IntKind.i64⟩ := tyOk_mk (inferInstance : TyI Tryz.prog 38 1 8 (Go.Value.int Go.IntKind.i64 0) false) rfl (Tryz.underlying38)
theorem ty45 : TyOk Tryz.prog 45 ⟨4, 64, true, zeroD (Go.Value.agg #[Go.Value.bool false, Go.Value.slice none 0 0, Go.Value.bool false, Go.Value.slice none 0 0]), .struct [(0, 2, true), (2, 2, true)]⟩ := tyOk_mk (inferInstance : TyI Tryz.prog 45 4 64 (Go.Value.agg #[Go.Value.bool false, Go.Value.slice none 0 0, Go.Value.bool false, Go.Value.slice none 0 0]) true) rfl (⟨_, Tryz.underlying45, by kernel_rfl, fun w => by kernel_rfl⟩)
theorem ty70 : TyOk Tryz.prog 70 ⟨1, 8, false, zeroD (Go.Value.int Go.IntKind.u64 0), .int Go.IntKind.u64⟩ := tyOk_mk (inferInstance : TyI Tryz.prog 70 1 8 (Go.Value.int Go.IntKind.u64 0) false) rfl (Tryz.underlying70)
theorem ty73 : TyOk Tryz.prog 73 ⟨1, 24, false, zeroD (Go.Value.slice none 0 0), .slice 5⟩ := tyOk_mk (inferInstance : TyI Tryz.prog 73 1 24 (Go.Value.slice none 0 0) false) rfl (Tryz.underlying73)
theorem ty77 : TyOk Tryz.prog 77 ⟨3, 48, true, zeroD (Go.Value.agg #[Go.Value.string { data := #[] }, Go.Value.string { data := #[] }, Go.Value.string { data := #[] }]), .array 3 9⟩ := tyOk_mk (inferInstance : TyI Tryz.prog 77 3 48 (Go.Value.agg #[Go.Value.string { data := #[] }, Go.Value.string { data := #[] }, Go.Value.string { data := #[] }]) true) rfl (Tryz.underlying77)
def env : Env := [(2, ⟨1, 8, false, zeroD (Go.Value.int Go.IntKind.i64 0), .int Go.IntKind.i64⟩), (3, ⟨1, 8, false, zeroD (Go.Value.int Go.IntKind.i64 0), .int Go.IntKind.i64⟩), (4, ⟨1, 1, false, zeroD (Go.Value.bool false), .bool⟩), (5, ⟨1, 1, false, zeroD (Go.Value.int Go.IntKind.u8 0), .int Go.IntKind.u8⟩), (9, ⟨1, 16, false, zeroD (Go.Value.string { data := #[] }), .str⟩), (26, ⟨2, 32, true, zeroD (Go.Value.agg #[Go.Value.bool false, Go.Value.slice none 0 0]), .struct [(0, 1, false), (1, 1, false)]⟩), (29, ⟨1, 24, false, zeroD (Go.Value.slice none 0 0), .slice 3⟩), (31, ⟨2, 32, true, zeroD (Go.Value.agg #[Go.Value.bool false, Go.Value.slice none 0 0]), .struct [(0, 1, false), (1, 1, false)]⟩), (34, ⟨3, 56, true, zeroD (Go.Value.agg #[Go.Value.bool false, Go.Value.slice none 0 0, Go.Value.slice none 0 0]), .struct [(0, 2, true), (2, 1, false)]⟩), (38, ⟨1, 8, false, zeroD (Go.Value.int Go.IntKind.i64 0), .int Go.IntKind.i64⟩), (45, ⟨4, 64, true, zeroD (Go.Value.agg #[Go.Value.bool false, Go.Value.slice none 0 0, Go.Value.bool false, Go.Value.slice none 0 0]), .struct [(0, 2, true), (2, 2, true)]⟩), (70, ⟨1, 8, false, zeroD (Go.Value.int Go.IntKind.u64 0), .int Go.IntKind.u64⟩), (73, ⟨1, 24, false, zeroD (Go.Value.slice none 0 0), .slice 5⟩), (77, ⟨3, 48, true, zeroD (Go.Value.agg #[Go.Value.string { data := #[] }, Go.Value.string { data := #[] }, Go.Value.string { data := #[] }]), .array 3 9⟩)]
theorem env_ok : EnvOk Tryz.prog env := envOk_cons ty2 (envOk_cons ty3 (envOk_cons ty4 (envOk_cons ty5 (envOk_cons ty9 (envOk_cons ty26 (envOk_cons ty29 (envOk_cons ty31 (envOk_cons ty34 (envOk_cons ty38 (envOk_cons ty45 (envOk_cons ty70 (envOk_cons ty73 (envOk_cons ty77 (envOk_nil))))))))))))))
end Go.Proofs.YtpmnjjmngogkkaaGreatDoor
end

section
set_option linter.unusedVariables false
set_option linter.unusedSimpArgs false
namespace Go.Proofs.YtpmnjjmngogkkaaGreatDoor
open Go Go.RowKit
/-- What is said of an operation of the head: its value; the block that it makes; what is known of its result. -/
inductive HRec where
  | val (d : Nat) (sv : (Nat → Value) → SV)
  | mk (d : Nat) (T : TypeId) (l : (Nat → Value) → List Ch)
  | spec (d : Nat) (p : Value → SV) (Δ : Value → Gh)
  | st (k : Nat) (l : (Nat → Value) → List Ch)     -- a store of the whole block that operation k of the head made
def HRec.d : HRec → Option Nat
  | .val d _ => some d
  | .mk d _ _ => some d
  | .spec d _ _ => some d
  | .st _ _ => none
def cnt : List HRec → Nat
  | [] => 0
  | .mk _ _ _ :: r => cnt r + 1
  | .val _ _ :: r => cnt r
  | .spec _ _ _ :: r => cnt r
  | .st _ _ :: r => cnt r
/-- The value of a record, n records before it, of which m made blocks. -/
def HRec.sv (m0 m n : Nat) (η : Nat → Value) : HRec → SV
  | .val _ sv => sv η
  | .mk _ _ _ => .one (.ptr (m0 + m) 0)
  | .spec _ p _ => p (η n)
  | .st _ _ => .und
def accFr (m0 : Nat) (η : Nat → Value) : List HRec → List (Nat × SV)
  | [] => []
  | h :: r => match h.d with | some d => (d, h.sv m0 (cnt r) r.length η) :: accFr m0 η r | none => accFr m0 η r
def frH (st : St) (acc : List HRec) (η : Nat → Value) : List (Nat × SV) := accFr st.hp.length η acc ++ st.fr
/-- The store into the block that operation j made. -/
def stOf : List HRec → Nat → Option ((Nat → Value) → List Ch)
  | [], _ => none
  | .st k l :: r, j => bif Nat.beq k j then some l else stOf r j
  | .val _ _ :: r, j => stOf r j
  | .mk _ _ _ :: r, j => stOf r j
  | .spec _ _ _ :: r, j => stOf r j
def accNwF (F : Nat → Option ((Nat → Value) → List Ch)) (η : Nat → Value) : List HRec → List HE
  | [] => []
  | .mk _ T l :: r => accNwF F η r ++ [.blk T (((F r.length).getD l) η)]
  | .val _ _ :: r => accNwF F η r
  | .spec _ _ _ :: r => accNwF F η r
  | .st _ _ :: r => accNwF F η r
def accNw (η : Nat → Value) (acc : List HRec) : List HE := accNwF (stOf acc) η acc
def accG (G : Gh) (η : Nat → Value) : List HRec → Gh
  | [] => G
  | .spec _ _ Δ :: r => (Δ (η r.length)).and (accG G η r)
  | .val _ _ :: r => accG G η r
  | .mk _ _ _ :: r => accG G η r
  | .st _ _ :: r => accG G η r
def accD (η : Nat → Value) : List HRec → Nat → Gh
  | [], _ => .nil
  | h :: r, j => bif Nat.beq r.length j then (match h with | .spec _ _ Δ => Δ (η j) | _ => .nil) else accD η r j
/-- What is known of the operations that this one waits for. -/
structure depsH (acc : List HRec) (es : List Edge) (η : Nat → Value) (S : Nat → Prop) (w : World) : Prop where
  all : ∀ j, hasEdge es j = true → (accD η acc j).p S w
noncomputable def hput (E : Env) (hp : List HE) (fr : List (Nat × SV)) (o : Oper) : Option (SV × List Prop) := match putOnly (effV E fr hp o.op) with | some (.put s vc) => some (s, vc) | _ => none
noncomputable def hval (E : Env) (hp : List HE) (all : List Oper) (fr : List (Nat × SV)) (o : Oper) : Option (SV × List Prop) :=
  match o.guard with
  | none => hput E hp fr o
  | some (j, want) => match dstAt all j with
    | none => none
    | some g => match look fr g with
      | some (.one (.bb x)) => bif x == want then hput E hp fr o else some (.und, [])
      | some .und => some (.und, [])
      | _ => none
def guardRun (all : List Oper) (fr : List (Nat × SV)) (o : Oper) : Bool :=
  match o.guard with
  | none => true
  | some (j, want) => match dstAt all j with
    | none => false
    | some g => match look fr g with | some (.one (.bb x)) => x == want | _ => false
def effM (E : Env) (fr : List (Nat × SV)) (k : Nat) : Op → Option Eff
  | .alloc T => mkOnly (effAlloc E T k)
  | .box T x => mkOnly (effBox T k (opd fr x))
  | _ => none
/-- A store into a block of the head's own: what it holds then. -/
def effSt (E : Env) (fr : List (Nat × SV)) (b : Nat) (lc : List Ch) : Op → Option (List Ch)
  | .store T' x y => match opd fr x, opd fr y, E.get T' with
    | some (.one (.ptr b' o)), some yv, some ti => match yv.chunks with
      | some new => bif Nat.beq b b' && Nat.beq (sizeL new) ti.size then stL lc o ti.size new else none
      | none => none
    | _, _, _ => none
  | _ => none
theorem effSt_ok {P : Program} {E : Env} {β : Nat → Nat} {m b : Nat} {T : TypeId} {fr : List (Nat × SV)} {w : World} {ty : TypeId} {ρ : Operand → Value} {o : Op} {lc l' : List Ch} (hE : EnvOk P E) (hk : OpsKn β m fr ρ o) (hok : ∀ c ∈ lc, c.Ok m) (hb : Blk w (β b) T (cellsL β lc)) (h : effSt E fr b lc o = some l') :
    (∀ c ∈ l', c.Ok m) ∧ ∃ w', Wrt (β b) w w' ∧ Blk w' (β b) T (cellsL β l') ∧ ∀ d pos aft g, (execOp ρ ⟨d, o, ty, pos, aft, g⟩).run P w = .ok .skip w' := by
  unfold effSt at h
  split at h <;> first | (cases h; done) | skip
  rename_i T' x y
  have hx := hk x (by simp [Op.operands])
  have hy := hk y (by simp [Op.operands])
  split at h <;> first | (cases h; done) | skip
  rename_i b' o yv ti e1 e2 e3
  have h1 := (hx _ e1).1
  have h2 := hy _ e2
  split at h <;> first | (cases h; done) | skip
  rename_i new e4
  cases hs : (Nat.beq b b' && Nat.beq (sizeL new) ti.size) with
  | false => rw [hs] at h; cases h
  | true =>
    rw [hs] at h
    simp only [cond_true] at h
    simp only [Bool.and_eq_true] at hs
    obtain rfl := Nat.eq_of_beq_eq_true hs.1
    have hsz := Nat.eq_of_beq_eq_true hs.2
    obtain ⟨h3, h4⟩ := SV.chunks_ok (β := β) e4 h2.2
    obtain ⟨h5, h6, h7⟩ := stL_ok (β := β) h hok h4
    obtain ⟨z, hty, _⟩ := (hE.get e3).ty
    have hlen := cellsL_len (β := β) h4
    have h8 := run_storeCells_at P (β b) o T (cellsL β new) 0 (cellsL β lc).toArray w hb (by simp; omega) (cellsL_one h4)
    have e9 : ((cellsL β lc).toArray.toList.take (o + 0) ++ cellsL β new ++ (cellsL β lc).toArray.toList.drop (o + 0 + (cellsL β new).length)).toArray = (cellsL β l').toArray := by
      rw [← h5]
      simp [hlen, hsz]
    rw [e9] at h8
    refine ⟨h7, w.setRow (β b) (cellsL β l').toArray, ⟨rfl, rfl, rfl, by simp [World.setRow], fun k _ hk => setRow_other w _ k _ hk⟩, setRow_heap w _ _ _ T (0, 0) hb, fun d pos aft g => ?_⟩
    have e10 : (cellsL β new).length = ti.size := by omega
    have h11 : ρ x = .pointer (some ⟨β b, o, none⟩) := h1
    simp [execOp, h11, h2.1, Instr.storeAt, Instr.sureAddr, storeVar, hty.runSize w, h3, e10, h8]
/-- One operation's run, which may be a call that panics. -/
def OpRun (P : Program) (σ : Operand → Value) (o : Oper) (w : World) (Ψ : Value → World → Prop) (Φ : List PanicEntry → World → Prop) : Prop :=
  match (execOp σ o).run P w with
  | .ok (.value v) w' => Ψ v w'
  | .ok (.enter f args) w' => GivesE P f args.toList w' Ψ Φ
  | _ => False
def Loc (c : Cx) (st : St) (G : Gh) (all : List Oper) (acc : List HRec) (o : Oper) : HRec → Prop
  | .val d sv => o.dst = some d ∧ ∀ η, ∃ s vc, hval c.E st.hp all (frH st acc η) o = some (s, vc) ∧
      ∀ S w, Ext c.w0 w → (∀ k, S k → c.S0 k) → G.p S w → depsH acc o.after.toList η S w → AllT vc ∧ ∀ β, s.den β = (sv η).den β ∧ ∀ m, s.Ok m → (sv η).Ok m
  | .mk d T l => o.dst = some d ∧ ∀ η, guardRun all (frH st acc η) o = true ∧ effM c.E (frH st acc η) (st.hp.length + cnt acc) o.op = some (.mk T (l η) (.one (.ptr (st.hp.length + cnt acc) 0)))
  | .st k l => o.dst = none ∧ hasEdge o.after.toList k = true ∧ (∀ j l', acc.reverse[j]? = some (.st k l') → hasEdge o.after.toList j = true) ∧ ∃ d T lc, acc.reverse[k]? = some (.mk d T lc) ∧
      ∀ η, guardRun all (frH st acc η) o = true ∧ effSt c.E (frH st acc η) (st.hp.length + cnt (acc.drop (acc.length - k))) (((stOf acc k).getD lc) η) o.op = some (l η)
  | .spec d p Δ => o.dst = some d ∧ ∀ η, guardRun all (frH st acc η) o = true ∧ ∀ β S w F m, OpsKn β m (frH st acc η) (ev F) o.op → Up S w → (∀ k, S k → c.S0 k) → Ext c.w0 w → G.p S w → depsH acc o.after.toList η S w →
      OpRun c.P (ev F) o w (fun v w' => Ext w w' ∧ v = (p v).den (fun _ => 0) ∧ (p v).Ok 0 ∧ (Δ v).p S w') fun ch w' => ∀ ρ, c.Q (.panic ch) ρ w'
def HdI (c : Cx) (st : St) (G : Gh) (all : List Oper) (K : List HRec → Prop) : List HRec → List Oper → Prop
  | acc, [] => K acc
  | acc, o :: r => ∃ h, Loc c st G all acc o h ∧ HdI c st G all K (h :: acc) r
/-- The same, closed to unfolding. -/
structure Hd (c : Cx) (st : St) (G : Gh) (all : List Oper) (K : List HRec → Prop) (acc : List HRec) (ops : List Oper) : Prop where
  run : HdI c st G all K acc ops
theorem hd_list {c : Cx} {st : St} {G : Gh} {all : List Oper} {K : List HRec → Prop} : ∀ (r : List Oper) (acc : List HRec), HdI c st G all K acc r →
    ∃ L : List HRec, L.length = r.length ∧ K (L.reverse ++ acc) ∧ ∀ k (hk : k < r.length), ∃ h, L[k]? = some h ∧ Loc c st G all ((L.take k).reverse ++ acc) r[k] h := by
  intro r
  induction r with
  | nil => intro acc h; exact ⟨[], rfl, h, fun k hk => absurd hk (by simp)⟩
  | cons o r ih =>
    rintro acc ⟨h0, hl, hr⟩
    obtain ⟨L, h1, h2, h3⟩ := ih _ hr
    refine ⟨h0 :: L, by simp [h1], by simpa using h2, fun k hk => ?_⟩
    cases k with
    | zero => exact ⟨h0, rfl, by simpa using hl⟩
    | succ k =>
      obtain ⟨h, h4, h5⟩ := h3 k (by simpa using hk)
      exact ⟨h, by simpa using h4, by simpa using h5⟩
section
variable {m0 : Nat} {η : Nat → Value}
theorem look_append {a b : List (Nat × SV)} {d : Nat} : look (a ++ b) d = match look a d with | some s => some s | none => look b d := by
  induction a with
  | nil => rfl
  | cons p r ih =>
    obtain ⟨i, x⟩ := p
    rw [List.cons_append, look_cons, look_cons]
    split
    · rfl
    · exact ih
/-- A head's slot, in text order. -/
theorem look_accFr : ∀ {acc : List HRec} {d : Nat} {s : SV}, look (accFr m0 η acc) d = some s → ∃ n h r, acc.drop n = h :: r ∧ h.d = some d ∧ s = h.sv m0 (cnt r) r.length η := by
  intro acc
  induction acc with
  | nil => intro d s h; cases h
  | cons x r ih =>
    intro d s h
    have next : look (accFr m0 η r) d = some s → ∃ n h r', (x :: r).drop n = h :: r' ∧ h.d = some d ∧ s = h.sv m0 (cnt r') r'.length η := fun h => by
      obtain ⟨n, y, q, h1, h2, h3⟩ := ih h
      exact ⟨n + 1, y, q, by simpa using h1, h2, h3⟩
    simp only [accFr] at h
    cases hx : x.d with
    | none => rw [hx] at h; exact next h
    | some d' =>
      rw [hx] at h
      simp only at h
      rw [look_cons] at h
      split at h
      · rename_i e
        simp only [Option.some.injEq] at h
        exact ⟨0, x, r, rfl, by rw [hx, e], h.symm⟩
      · exact next h
theorem look_accFr_none : ∀ {acc : List HRec} {d : Nat}, look (accFr m0 η acc) d = none → ∀ h ∈ acc, h.d ≠ some d := by
  intro acc
  induction acc with
  | nil => intro d h x hx; cases hx
  | cons x r ih =>
    intro d h y hy
    simp only [accFr] at h
    cases hx : x.d with
    | none =>
      rw [hx] at h
      rcases List.mem_cons.1 hy with rfl | hy
      · rw [hx]; simp
      · exact ih h y hy
    | some d' =>
      rw [hx] at h
      simp only at h
      rw [look_cons] at h
      split at h
      · cases h
      · rename_i e
        rcases List.mem_cons.1 hy with rfl | hy
        · rw [hx]; simpa using e
        · exact ih h y hy
theorem cnt_eqF {F : Nat → Option ((Nat → Value) → List Ch)} : ∀ {acc : List HRec}, (accNwF F η acc).length = cnt acc := by
  intro acc
  induction acc with
  | nil => rfl
  | cons h r ih => cases h <;> simp [accNwF, cnt, ih]
theorem cnt_eq {acc : List HRec} : (accNw η acc).length = cnt acc := cnt_eqF
theorem cnt_mono : ∀ {acc : List HRec} {n : Nat}, cnt (acc.drop n) ≤ cnt acc := by
  intro acc
  induction acc with
  | nil => intro n; simp
  | cons h r ih =>
    intro n
    cases n with
    | zero => exact Nat.le_refl _
    | succ n => have := @ih n; cases h <;> simp only [List.drop_succ_cons, cnt] <;> omega
/-- The entries that the head makes. -/
theorem accNwF_get {F : Nat → Option ((Nat → Value) → List Ch)} : ∀ {acc : List HRec} {j : Nat} {x : HE}, (accNwF F η acc)[j]? = some x → ∃ n d T l r, acc.drop n = .mk d T l :: r ∧ cnt r = j ∧ x = .blk T (((F r.length).getD l) η) := by
  intro acc
  induction acc with
  | nil => intro j x h; simp [accNwF] at h
  | cons y r ih =>
    intro j x h
    have next : (accNwF F η r)[j]? = some x → ∃ n d T l q, (y :: r).drop n = .mk d T l :: q ∧ cnt q = j ∧ x = .blk T (((F q.length).getD l) η) := fun h => by
      obtain ⟨n, d', T, l, q, h1, h2, h3⟩ := ih h
      exact ⟨n + 1, d', T, l, q, by simpa using h1, h2, h3⟩
    cases y with
    | val d sv => exact next h
    | spec d p Δ => exact next h
    | st k l => exact next h
    | mk d T l =>
      simp only [accNwF] at h
      by_cases hj : j < (accNwF F η r).length
      · rw [List.getElem?_append_left hj] at h
        exact next h
      · have hl := (List.getElem?_eq_some_iff.1 h).1
        simp at hl
        have e : j = (accNwF F η r).length := by omega
        subst e
        simp at h
        exact ⟨0, d, T, l, r, rfl, cnt_eqF.symm, h.symm⟩
theorem accNw_get {acc : List HRec} {j : Nat} {x : HE} (h : (accNw η acc)[j]? = some x) : ∃ n d T l r, acc.drop n = .mk d T l :: r ∧ cnt r = j ∧ x = .blk T (((stOf acc r.length).getD l) η) := accNwF_get h
theorem accG_p {G : Gh} {S : Nat → Prop} {w : World} : ∀ {acc : List HRec}, G.p S w → (∀ n d p Δ r, acc.drop n = .spec d p Δ :: r → (Δ (η r.length)).p S w) → (accG G η acc).p S w := by
  intro acc
  induction acc with
  | nil => intro h _; exact h
  | cons y r ih =>
    intro h k
    have h2 := ih h fun n d p Δ q hq => k (n + 1) d p Δ q (by simpa using hq)
    cases y with
    | val d sv => exact h2
    | mk d T l => exact h2
    | st k l => exact h2
    | spec d p Δ => exact ⟨k 0 d p Δ r rfl, h2⟩
theorem accD_p {S : Nat → Prop} {w : World} {j : Nat} : ∀ {acc : List HRec}, (∀ n d p Δ r, acc.drop n = .spec d p Δ :: r → r.length = j → (Δ (η j)).p S w) → (accD η acc j).p S w := by
  intro acc
  induction acc with
  | nil => intro _; trivial
  | cons y r ih =>
    intro k
    simp only [accD]
    cases hb : Nat.beq r.length j with
    | true =>
      have e := Nat.eq_of_beq_eq_true hb
      cases y with
      | val d sv => trivial
      | mk d T l => trivial
      | st k l => trivial
      | spec d p Δ => exact k 0 d p Δ r rfl e
    | false => exact ih fun n d p Δ q hq => k (n + 1) d p Δ q (by simpa using hq)
end
theorem stOf_some {k : Nat} {l : (Nat → Value) → List Ch} : ∀ {acc : List HRec}, stOf acc k = some l → ∃ n : Nat, acc[n]? = some (HRec.st k l) ∧ ∀ (m : Nat) l', m < n → acc[m]? ≠ some (HRec.st k l') := by
  intro acc
  induction acc with
  | nil => intro h; cases h
  | cons x r ih =>
    intro h
    have next : stOf r k = some l → (∀ l', x ≠ .st k l') → ∃ n : Nat, (x :: r)[n]? = some (HRec.st k l) ∧ ∀ (m : Nat) l', m < n → (x :: r)[m]? ≠ some (HRec.st k l') := fun h hx => by
      obtain ⟨n, h1, h2⟩ := ih h
      refine ⟨n + 1, by simpa using h1, fun m l' hm => ?_⟩
      cases m with
      | zero => simpa using hx l'
      | succ m => simpa using h2 m l' (by omega)
    cases x with
    | val d sv => exact next h fun l' e => by cases e
    | mk d T lc => exact next h fun l' e => by cases e
    | spec d p Δ => exact next h fun l' e => by cases e
    | st k' l2 =>
      simp only [stOf] at h
      cases hb : Nat.beq k' k with
      | true =>
        rw [hb] at h
        simp only [cond_true, Option.some.injEq] at h
        obtain rfl := Nat.eq_of_beq_eq_true hb
        subst h
        exact ⟨0, rfl, fun m l' hm => absurd hm (Nat.not_lt_zero m)⟩
      | false =>
        rw [hb] at h
        refine next h fun l' e => ?_
        cases e
        simp at hb
theorem stOf_none {k : Nat} : ∀ {acc : List HRec}, stOf acc k = none → ∀ (m : Nat) l', acc[m]? ≠ some (HRec.st k l') := by
  intro acc
  induction acc with
  | nil => intro h m l'; simp
  | cons x r ih =>
    intro h m l'
    have next : stOf r k = none → (∀ l', x ≠ .st k l') → (x :: r)[m]? ≠ some (HRec.st k l') := fun h hx => by
      cases m with
      | zero => simpa using hx l'
      | succ m => simpa using ih h m l'
    cases x with
    | val d sv => exact next h fun l' e => by cases e
    | mk d T lc => exact next h fun l' e => by cases e
    | spec d p Δ => exact next h fun l' e => by cases e
    | st k' l2 =>
      simp only [stOf] at h
      cases hb : Nat.beq k' k with
      | true => rw [hb] at h; cases h
      | false =>
        rw [hb] at h
        refine next h fun l' e => ?_
        cases e
        simp at hb
theorem hval_ok {c : Cx} {base : Nat} {hp : List HE} {all : List Oper} {fr : List (Nat × SV)} {o : Oper} {s : SV} {vc : List Prop} {β : Nat → Nat} {m n : Nat} {D : List Deferred} {a : Act} {ρ : Fr} {w : World} (hE : EnvOk c.P c.E) (hle : hp.length ≤ m) (hm : Mt n D a ρ) (hM : Mem base hp β w)
    (hk : OpsKn β m fr (ev ρ) o.op) (hg : ∀ j b, o.guard = some (j, b) → ∀ g, dstAt all j = some g → Kn β m (look fr g) (ρ g)) (h : hval c.E hp all fr o = some (s, vc)) (hv : AllT vc) :
    s.Ok m ∧ ((Region.wanted o (yielded all.toArray a.tmps) = true ∧ (execOp (ev ρ) o).run c.P w = .ok (.value (s.den β)) w) ∨ (Region.wanted o (yielded all.toArray a.tmps) = false ∧ s.den β = undef)) := by
  obtain ⟨dst, op, ty, pos, aft, g⟩ := o
  have hput' : hput c.E hp fr ⟨dst, op, ty, pos, aft, g⟩ = some (s, vc) → s.Ok m ∧ (execOp (ev ρ) ⟨dst, op, ty, pos, aft, g⟩).run c.P w = .ok (.value (s.den β)) w := by
    intro h
    unfold hput at h
    simp only at h
    split at h <;> first | (cases h; done) | skip
    rename_i s' vc' he
    simp only [Option.some.injEq, Prod.mk.injEq] at h
    obtain ⟨rfl, rfl⟩ := h
    obtain ⟨h1, h2⟩ := effV_ok (P := c.P) (ty := ty) hle hE hM hk (putOnly_eq he).1 hv
    exact ⟨h2, h1 _ _ _ _⟩
  unfold hval at h
  simp only at h
  split at h
  · obtain ⟨h1, h2⟩ := hput' h
    exact ⟨h1, .inl ⟨rfl, h2⟩⟩
  · rename_i j want
    split at h <;> first | (cases h; done) | skip
    rename_i gs hd
    have hkg := hg j want rfl gs hd
    split at h <;> first | (cases h; done) | skip
    · rename_i x hx
      have hv1 : ρ gs = .bool x := (hkg _ hx).1
      have hy := yielded_mt hm hd hv1
      cases hb : (x == want) with
      | true =>
        rw [hb] at h
        obtain ⟨h1, h2⟩ := hput' h
        refine ⟨h1, .inl ⟨?_, h2⟩⟩
        unfold Region.wanted
        simp only [hy]
        have := eq_of_beq hb
        subst this
        simp
      | false =>
        rw [hb] at h
        simp only [cond_false, Option.some.injEq, Prod.mk.injEq] at h
        obtain ⟨rfl, rfl⟩ := h
        refine ⟨trivial, .inr ⟨?_, rfl⟩⟩
        unfold Region.wanted
        simp only [hy]
        simpa using hb
    · rename_i hx
      have hv1 : ρ gs = undef := (hkg _ hx).1
      have hy := yielded_undef hm hd hv1
      simp only [Option.some.injEq, Prod.mk.injEq] at h
      obtain ⟨rfl, rfl⟩ := h
      refine ⟨trivial, .inr ⟨?_, rfl⟩⟩
      unfold Region.wanted
      simp only [hy]
      rfl
theorem guardRun_ok {all : List Oper} {fr : List (Nat × SV)} {o : Oper} {β : Nat → Nat} {m n : Nat} {D : List Deferred} {a : Act} {ρ : Fr} (hm : Mt n D a ρ)
    (hg : ∀ j b, o.guard = some (j, b) → ∀ g, dstAt all j = some g → Kn β m (look fr g) (ρ g)) (h : guardRun all fr o = true) : Region.wanted o (yielded all.toArray a.tmps) = true := by
  obtain ⟨dst, op, ty, pos, aft, g⟩ := o
  unfold guardRun at h
  unfold Region.wanted
  simp only at h hg ⊢
  split at h
  · rfl
  · rename_i j want
    split at h <;> first | (cases h; done) | skip
    rename_i gs hd
    split at h <;> first | (cases h; done) | skip
    rename_i x hx
    have hv1 : ρ gs = .bool x := ((hg j want rfl gs hd) _ hx).1
    simp only [yielded_mt hm hd hv1]
    have := eq_of_beq h
    subst this
    simp
end Go.Proofs.YtpmnjjmngogkkaaGreatDoor
end

section
set_option linter.unusedVariables false
set_option linter.unusedSimpArgs false
namespace Go.Proofs.YtpmnjjmngogkkaaGreatDoor
open Go Go.RowKit
section
variable {L : List HRec}
abbrev accAt (L : List HRec) (k : Nat) : List HRec := (L.take k).reverse
theorem accAt_len {k : Nat} (h : k ≤ L.length) : (accAt L k).length = k := by simp; omega
theorem accAt_drop {i k : Nat} {h : HRec} (hi : i ≤ L.length) (hk : k < i) (hh : L[k]? = some h) : (accAt L i).drop (i - 1 - k) = h :: accAt L k := by
  have hkl : k < L.length := by omega
  have e : L.take i = L.take k ++ h :: (L.take i).drop (k + 1) := by
    have h1 : L[k] = h := by rw [List.getElem?_eq_getElem hkl] at hh; exact Option.some.inj hh
    have h2 : (L.take i).drop k = h :: (L.take i).drop (k + 1) := by
      rw [List.drop_eq_getElem_cons (by simp; omega)]
      congr 1
      rw [List.getElem_take]
      exact h1
    rw [← h2]
    have h3 : L.take k = (L.take i).take k := by rw [List.take_take]; congr 1; omega
    rw [h3, List.take_append_drop]
  unfold accAt
  rw [e, List.reverse_append, List.reverse_cons, List.append_assoc]
  rw [List.drop_append]
  have hl : ((L.take i).drop (k + 1)).reverse.length = i - 1 - k := by simp; omega
  rw [hl, List.drop_eq_nil_of_le (by omega), Nat.sub_self]
  rfl
theorem accAt_of {i n : Nat} {h : HRec} {r : List HRec} (hi : i ≤ L.length) (hd : (accAt L i).drop n = h :: r) : ∃ k, k < i ∧ L[k]? = some h ∧ r = accAt L k := by
  have hn : n < i := by
    have := congrArg List.length hd
    simp only [List.length_drop, accAt_len hi, List.length_cons] at this
    omega
  have hkl : i - 1 - n < L.length := by omega
  have h1 := accAt_drop (k := i - 1 - n) hi (by omega) (List.getElem?_eq_getElem hkl)
  rw [show i - 1 - (i - 1 - n) = n by omega, hd] at h1
  simp only [List.cons.injEq] at h1
  exact ⟨i - 1 - n, by omega, by rw [List.getElem?_eq_getElem hkl, h1.1], h1.2⟩
theorem cnt_lt {i k d : Nat} {T : TypeId} {l : (Nat → Value) → List Ch} (hi : i ≤ L.length) (hk : k < i) (hh : L[k]? = some (.mk d T l)) : cnt (accAt L k) < cnt (accAt L i) := by
  have h1 := accAt_drop hi hk hh
  have h2 := @cnt_mono (accAt L i) (i - 1 - k)
  rw [h1] at h2
  simp only [cnt] at h2
  omega
end
theorem accAt_get {L : List HRec} {i m : Nat} (hi : i ≤ L.length) (hm : m < i) : (accAt L i)[m]? = L[i - 1 - m]? := by
  unfold accAt
  rw [List.getElem?_reverse (by rw [List.length_take]; omega), List.length_take, Nat.min_eq_left hi, List.getElem?_take, if_pos (by omega)]
/-- What a block of the head's own holds: what it was made with, or what was stored last. -/
def Cont (t : Nat) (L : List HRec) (lst : Nat → Prop) (k : Nat) (lc lf : (Nat → Value) → List Ch) : Prop :=
  (lf = lc ∧ ∀ j l', j < t → lst j → L[j]? ≠ some (HRec.st k l')) ∨ ∃ j, j < t ∧ lst j ∧ L[j]? = some (HRec.st k lf) ∧ ∀ j' l', j' < t → lst j' → L[j']? = some (HRec.st k l') → j' ≤ j
theorem Cont.add {t : Nat} {L : List HRec} {lst : Nat → Prop} {k i : Nat} {lc lf : (Nat → Value) → List Ch} (h : Cont t L lst k lc lf) (hn : ∀ l', L[i]? ≠ some (HRec.st k l')) : Cont t L (fun j => j = i ∨ lst j) k lc lf := by
  rcases h with ⟨h1, h2⟩ | ⟨j, h1, h2, h3, h4⟩
  · refine .inl ⟨h1, fun j l' hj hl => ?_⟩
    rcases hl with rfl | hl
    · exact hn l'
    · exact h2 j l' hj hl
  · refine .inr ⟨j, h1, .inr h2, h3, fun j' l' hj' hl hg => ?_⟩
    rcases hl with rfl | hl
    · exact absurd hg (hn l')
    · exact h4 j' l' hj' hl hg
theorem Cont.eq {t : Nat} {L : List HRec} {lst : Nat → Prop} {k i : Nat} {lc lf : (Nat → Value) → List Ch} (h : Cont t L lst k lc lf) (hi : i ≤ L.length) (hit : i ≤ t) (hl : ∀ j l', j < t → L[j]? = some (HRec.st k l') → (lst j ↔ j < i)) : (stOf (accAt L i) k).getD lc = lf := by
  cases hs : stOf (accAt L i) k with
  | none =>
    have hn := stOf_none hs
    have hn' : ∀ j l', j < i → L[j]? ≠ some (HRec.st k l') := fun j l' hj => by
      have := hn (i - 1 - j) l'
      rwa [accAt_get hi (by omega), show i - 1 - (i - 1 - j) = j by omega] at this
    rcases h with ⟨h1, h2⟩ | ⟨j, h1, h2, h3, h4⟩
    · exact h1.symm
    · exact absurd h3 (hn' j lf ((hl j lf h1 h3).1 h2))
  | some l =>
    obtain ⟨n, h5, h6⟩ := stOf_some hs
    have hni : n < i := by
      have := (List.getElem?_eq_some_iff.1 h5).1
      rwa [accAt_len hi] at this
    rw [accAt_get hi hni] at h5
    have h7 := (hl _ l (by omega) h5).2 (by omega)
    rcases h with ⟨h1, h2⟩ | ⟨j, h1, h2, h3, h4⟩
    · exact absurd h5 (h2 _ l (by omega) h7)
    · have h8 := h4 _ l (by omega) h7 h5
      have h9 := (hl j lf h1 h3).1 h2
      rcases Nat.lt_or_ge (i - 1 - n) j with h10 | h10
      · have := h6 (i - 1 - j) lf (by omega)
        rw [accAt_get hi (by omega), show i - 1 - (i - 1 - j) = j by omega] at this
        exact absurd h3 this
      · have e : j = i - 1 - n := by omega
        rw [e, h5] at h3
        simpa using h3
section
variable {c : Cx} {st : St} {G : Gh} {l : List Oper} {t M : Nat} {L : List HRec} {β0 : Nat → Nat} {ρ0 : Fr} {w00 : World}
def idxOf (st : St) (L : List HRec) (k : Nat) : Nat := st.hp.length + cnt (accAt L k)
/-- What the results and the blocks may be, as far as they are not there yet. -/
structure Comp (st : St) (t : Nat) (L : List HRec) (β0 : Nat → Nat) (lst : Nat → Prop) (v : Nat → Value) (β : Nat → Nat) (η' : Nat → Value) (β' : Nat → Nat) : Prop where
  res : ∀ k, k < t → lst k → ∀ d p Δ, L[k]? = some (.spec d p Δ) → η' k = v k
  old : ∀ i, i < st.hp.length → β' i = β0 i
  blk : ∀ k, k < t → lst k → ∀ d T lc, L[k]? = some (.mk d T lc) → β' (idxOf st L k) = β (idxOf st L k)
def SL (c : Cx) (st : St) (t : Nat) (L : List HRec) (β0 : Nat → Nat) (lst : Nat → Prop) (β : Nat → Nat) : Nat → Prop :=
  fun b => Sof c.S0 β0 st.hp b ∧ ∀ k, k < t → lst k → ∀ d T lc, L[k]? = some (.mk d T lc) → β (idxOf st L k) ≠ b
structure HInv (c : Cx) (st : St) (G : Gh) (t M : Nat) (L : List HRec) (β0 : Nat → Nat) (ρ0 : Fr) (w00 : World) (lst : Nat → Prop) (ρ' : Fr) (v : Nat → Value) (β : Nat → Nat) (w' : World) : Prop where
  ext : Ext w00 w'
  old : ∀ i, i < st.hp.length → β i = β0 i
  out : ∀ s, (∀ k, k < t → ∀ h, L[k]? = some h → h.d ≠ some s) → ρ' s = ρ0 s
  val : ∀ k, k < t → lst k → ∀ h, L[k]? = some h → ∀ d, h.d = some d → ∀ η' β', Comp st t L β0 lst v β η' β' → ρ' d = (h.sv st.hp.length (cnt (accAt L k)) k η').den β' ∧ (h.sv st.hp.length (cnt (accAt L k)) k η').Ok M
  made : ∀ k, k < t → lst k → ∀ d T lc, L[k]? = some (.mk d T lc) → w00.heap.size ≤ β (idxOf st L k) ∧ β (idxOf st L k) < w'.heap.size ∧ ∃ lf, Cont t L lst k lc lf ∧ ∀ η' β', Comp st t L β0 lst v β η' β' → Blk w' (β (idxOf st L k)) T (cellsL β' (lf η')) ∧ ∀ ch ∈ lf η', ch.Ok M
  stl : ∀ j, j < t → lst j → ∀ k l, L[j]? = some (.st k l) → lst k ∧ ∀ j' l', j' < j → L[j']? = some (HRec.st k l') → lst j'
  apart : ∀ k k', k < t → k' < t → lst k → lst k' → ∀ d T lc d' T' lc', L[k]? = some (.mk d T lc) → L[k']? = some (.mk d' T' lc') → β (idxOf st L k) = β (idxOf st L k') → k = k'
  gh : G.p (SL c st t L β0 lst β) w'
  spec : ∀ k, k < t → lst k → ∀ d p Δ, L[k]? = some (.spec d p Δ) → (Δ (v k)).p (SL c st t L β0 lst β) w'
theorem stl_add {lst : Nat → Prop} {i : Nat} (h : ∀ j, j < t → lst j → ∀ k l, L[j]? = some (.st k l) → lst k ∧ ∀ j' l', j' < j → L[j']? = some (HRec.st k l') → lst j') (hn : ∀ k l, L[i]? ≠ some (.st k l)) :
    ∀ j, j < t → (j = i ∨ lst j) → ∀ k l, L[j]? = some (.st k l) → (k = i ∨ lst k) ∧ ∀ j' l', j' < j → L[j']? = some (HRec.st k l') → (j' = i ∨ lst j') := by
  intro j hj hl k l hg
  rcases hl with rfl | hl
  · exact absurd hg (hn k l)
  · obtain ⟨h1, h2⟩ := h j hj hl k l hg
    exact ⟨.inr h1, fun j' l' hj' hg' => .inr (h2 j' l' hj' hg')⟩
theorem HInv.comp {lst : Nat → Prop} {ρ' : Fr} {v : Nat → Value} {β : Nat → Nat} {w' : World} (h : HInv c st G t M L β0 ρ0 w00 lst ρ' v β w') : Comp st t L β0 lst v β v β :=
  ⟨fun _ _ _ _ _ _ _ => rfl, h.old, fun _ _ _ _ _ _ _ => rfl⟩
theorem Mem.congr {base : Nat} {hp : List HE} {β β' : Nat → Nat} {w : World} (h : Mem base hp β w) (hb : ∀ i, i < hp.length → β' i = β i) : Mem base hp β' w := by
  have hm : ∀ i, mineAt β' hp i = mineAt β hp i := by
    intro i
    unfold mineAt
    cases hi : hp[i]? with
    | none => rfl
    | some x => simp only [Option.bind_some]; rw [hb i (List.getElem?_eq_some_iff.1 hi).1]
  refine ⟨fun i T l hi => ?_, h.row, fun i k hk => h.low i k (hm i ▸ hk), fun i j k hi hj => h.apart i j k (hm i ▸ hi) (hm j ▸ hj)⟩
  obtain ⟨h1, h2⟩ := h.blk i T l hi
  have hil := (List.getElem?_eq_some_iff.1 hi).1
  rw [hb i hil, cellsL_congr (m := hp.length) hb h2]
  exact ⟨h1, h2⟩
/-- What an operation of the head may read. -/
theorem head_kn {lst : Nat → Prop} {ρ' : Fr} {v : Nat → Value} {β : Nat → Nat} {w' : World} (hS : Sat c.w0.heap.size st β0 ρ0 w00) (hM : st.hp.length ≤ M) (h : HInv c st G t M L β0 ρ0 w00 lst ρ' v β w') {i s : Nat} (hi : i ≤ L.length) (hit : i ≤ t)
    (hs : ∀ k, k < t → ∀ h, L[k]? = some h → h.d = some s → k < i ∧ lst k) {η' : Nat → Value} {β' : Nat → Nat} (hc : Comp st t L β0 lst v β η' β') : Kn β' M (look (frH st (accAt L i) η') s) (ρ' s) := by
  intro x hx
  unfold frH at hx
  rw [look_append] at hx
  cases hl : look (accFr st.hp.length η' (accAt L i)) s with
  | some y =>
    rw [hl] at hx
    simp only [Option.some.injEq] at hx
    subst hx
    obtain ⟨n, hh, r, h1, h2, h3⟩ := look_accFr hl
    obtain ⟨k, hk, h4, h5⟩ := accAt_of hi h1
    have h6 := hs k (by omega) hh h4 h2
    have h7 := h.val k (by omega) h6.2 hh h4 s h2 η' β' hc
    subst h5
    rw [accAt_len (by omega)] at h3
    rw [h3]
    exact h7
  | none =>
    rw [hl] at hx
    simp only at hx
    have hn := look_accFr_none hl
    have e : ρ' s = ρ0 s := by
      refine h.out s fun k hk hh hg he => ?_
      obtain ⟨h1, h2⟩ := hs k hk hh hg he
      refine hn hh ?_ he
      rw [List.mem_reverse]
      refine List.mem_of_getElem? (i := k) ?_
      rw [List.getElem?_take, if_pos h1]
      exact hg
    obtain ⟨e1, e2⟩ := (hS.fr s) x hx
    exact ⟨by rw [e, e1]; exact SV.den_congr (fun i hi => (hc.old i hi).symm) e2, e2.le hM⟩
/-- The invariant behind one more operation. -/
theorem HInv.put {lst : Nat → Prop} {ρ' : Fr} {v : Nat → Value} {β : Nat → Nat} {w' : World} (h : HInv c st G t M L β0 ρ0 w00 lst ρ' v β w') {i : Nat} {d : Nat} {sv : (Nat → Value) → SV} (hi : i < t) (hh : L[i]? = some (.val d sv)) (hu : ∀ k, k < t → ∀ h, L[k]? = some h → h.d = some d → k = i)
    {x : Value} (hx : ∀ η' β', Comp st t L β0 lst v β η' β' → x = (sv η').den β' ∧ (sv η').Ok M) : HInv c st G t M L β0 ρ0 w00 (fun k => k = i ∨ lst k) (upd ρ' d x) v β w' := by
  have hcomp : ∀ {η' β'}, Comp st t L β0 (fun k => k = i ∨ lst k) v β η' β' → Comp st t L β0 lst v β η' β' := fun q => ⟨fun k hk hl => q.res k hk (.inr hl), q.old, fun k hk hl => q.blk k hk (.inr hl)⟩
  have hSL : SL c st t L β0 (fun k => k = i ∨ lst k) β = SL c st t L β0 lst β := by
    funext b
    refine propext ⟨fun q => ⟨q.1, fun k hk hl => q.2 k hk (.inr hl)⟩, fun q => ⟨q.1, fun k hk hl d' T lc hg => ?_⟩⟩
    rcases hl with rfl | hl
    · rw [hh] at hg; cases hg
    · exact q.2 k hk hl d' T lc hg
  refine ⟨h.ext, h.old, fun s hs => ?_, ?_, ?_, stl_add h.stl (fun k l e => by rw [hh] at e; cases e), ?_, hSL ▸ h.gh, ?_⟩
  · rw [upd_eq, if_neg (show ¬ d = s from fun e => hs i hi _ hh (congrArg some e))]
    exact h.out s hs
  · intro k hk hl g hg d' hd' η' β' hc
    rw [upd_eq]
    split
    · rename_i e
      obtain rfl := hu k hk g hg (by rw [hd', e])
      rw [hh] at hg
      cases hg
      exact hx η' β' (hcomp hc)
    · rename_i e
      rcases hl with rfl | hl
      · rw [hh] at hg; cases hg; exact absurd (by simpa [HRec.d] using hd') e
      · exact h.val k hk hl g hg d' hd' η' β' (hcomp hc)
  · intro k hk hl d' T lc hg
    rcases hl with rfl | hl
    · rw [hh] at hg; cases hg
    · obtain ⟨h1, h2, lf, hC, h3⟩ := h.made k hk hl d' T lc hg
      exact ⟨h1, h2, lf, hC.add (fun l' e => by rw [hh] at e; cases e), fun η' β' hc => h3 η' β' (hcomp hc)⟩
  · intro k k' hk hk' hl hl' d1 T1 l1 d2 T2 l2 hg hg'
    rcases hl with rfl | hl
    · rw [hh] at hg; cases hg
    · rcases hl' with rfl | hl'
      · rw [hh] at hg'; cases hg'
      · exact h.apart k k' hk hk' hl hl' _ _ _ _ _ _ hg hg'
  · intro k hk hl d' p Δ hg
    rw [hSL]
    rcases hl with rfl | hl
    · rw [hh] at hg; cases hg
    · exact h.spec k hk hl d' p Δ hg
theorem HInv.res {lst : Nat → Prop} {ρ' : Fr} {v : Nat → Value} {β : Nat → Nat} {w' w2 : World} (h : HInv c st G t M L β0 ρ0 w00 lst ρ' v β w') {i : Nat} {d : Nat} {p : Value → SV} {Δ : Value → Gh} (hi : i < t) (hn : ¬ lst i) (hh : L[i]? = some (.spec d p Δ)) (hu : ∀ k, k < t → ∀ h, L[k]? = some h → h.d = some d → k = i)
    {x : Value} (hk : Ext w' w2) (hx : x = (p x).den (fun _ => 0)) (hok : (p x).Ok 0) (hΔ : (Δ x).p (SL c st t L β0 lst β) w2) : HInv c st G t M L β0 ρ0 w00 (fun k => k = i ∨ lst k) (upd ρ' d x) (fun k => if k = i then x else v k) β w2 := by
  have hcomp : ∀ {η' : Nat → Value} {β' : Nat → Nat}, Comp st t L β0 (fun k => k = i ∨ lst k) (fun k => if k = i then x else v k) β η' β' → Comp st t L β0 lst v β η' β' ∧ η' i = x := fun {η' β'} q =>
    ⟨⟨fun k hk hl d p Δ hg => by
        have h1 : η' k = if k = i then x else v k := q.res k hk (.inr hl) d p Δ hg
        rwa [if_neg (fun e : k = i => hn (by rw [← e]; exact hl))] at h1, q.old, fun k hk hl => q.blk k hk (.inr hl)⟩, by
      have h1 : η' i = if i = i then x else v i := q.res i hi (.inl rfl) d p Δ hh
      rwa [if_pos rfl] at h1⟩
  have hSL : SL c st t L β0 (fun k => k = i ∨ lst k) β = SL c st t L β0 lst β := by
    funext b
    refine propext ⟨fun q => ⟨q.1, fun k hk hl => q.2 k hk (.inr hl)⟩, fun q => ⟨q.1, fun k hk hl d' T lc hg => ?_⟩⟩
    rcases hl with rfl | hl
    · rw [hh] at hg; cases hg
    · exact q.2 k hk hl d' T lc hg
  refine ⟨h.ext.trans hk, h.old, fun s hs => ?_, ?_, ?_, stl_add h.stl (fun k l e => by rw [hh] at e; cases e), ?_, hSL ▸ G.keep h.gh (.of hk), ?_⟩
  · rw [upd_eq, if_neg (show ¬ d = s from fun e => hs i hi _ hh (congrArg some e))]
    exact h.out s hs
  · intro k hk' hl g hg d' hd' η' β' hc
    obtain ⟨hc1, hc2⟩ := hcomp hc
    rw [upd_eq]
    split
    · rename_i e
      obtain rfl := hu k hk' g hg (by rw [hd', e])
      rw [hh] at hg
      cases hg
      simp only [HRec.sv, hc2]
      exact ⟨hx.trans (SV.den_congr (m := 0) (fun i hi => absurd hi (Nat.not_lt_zero i)) hok), hok.le (Nat.zero_le _)⟩
    · rename_i e
      rcases hl with rfl | hl
      · rw [hh] at hg; cases hg; exact absurd (by simpa [HRec.d] using hd') e
      · exact h.val k hk' hl g hg d' hd' η' β' hc1
  · intro k hk' hl d' T lc hg
    rcases hl with rfl | hl
    · rw [hh] at hg; cases hg
    · obtain ⟨h1, h2, lf, hC, h3⟩ := h.made k hk' hl d' T lc hg
      exact ⟨h1, Nat.lt_of_lt_of_le h2 hk.size, lf, hC.add (fun l' e => by rw [hh] at e; cases e), fun η' β' hc => ⟨(h3 η' β' (hcomp hc).1).1.to hk, (h3 η' β' (hcomp hc).1).2⟩⟩
  · intro k k' hk' hk2 hl hl' d1 T1 l1 d2 T2 l2 hg hg'
    rcases hl with rfl | hl
    · rw [hh] at hg; cases hg
    · rcases hl' with rfl | hl'
      · rw [hh] at hg'; cases hg'
      · exact h.apart k k' hk' hk2 hl hl' _ _ _ _ _ _ hg hg'
  · intro k hk' hl d' p' Δ' hg
    rw [hSL]
    by_cases e : k = i
    · subst e
      rw [hh] at hg
      cases hg
      rw [if_pos rfl]
      exact hΔ
    · rw [if_neg e]
      rcases hl with e' | hl
      · exact absurd e' e
      · exact (Δ' (v k)).keep (h.spec k hk' hl d' p' Δ' hg) (.of hk)
theorem HInv.new {lst : Nat → Prop} {ρ' : Fr} {v : Nat → Value} {β : Nat → Nat} {w' : World} (hS : Sat c.w0.heap.size st β0 ρ0 w00) (h : HInv c st G t M L β0 ρ0 w00 lst ρ' v β w') {i : Nat} {d : Nat} {T : TypeId} {lc : (Nat → Value) → List Ch} (hlen : L.length = t) (hi : i < t) (hn : ¬ lst i) (hh : L[i]? = some (.mk d T lc)) (hu : ∀ k, k < t → ∀ h, L[k]? = some h → h.d = some d → k = i)
    {cs : List Value} (hMi : idxOf st L i < M) (hx : ∀ η' β', Comp st t L β0 lst v β η' β' → cs = cellsL β' (lc η') ∧ ∀ ch ∈ lc η', ch.Ok M) :
    HInv c st G t M L β0 ρ0 w00 (fun k => k = i ∨ lst k) (upd ρ' d (.pointer (some ⟨w'.heap.size, 0, none⟩))) v (βs β (idxOf st L i) w'.heap.size) (w'.alloc (.cells cs.toArray T)) := by
  have hk := ext_alloc w' (.cells cs.toArray T)
  have hold : ∀ j, j < st.hp.length → βs β (idxOf st L i) w'.heap.size j = β j := fun j hj => βs_lt (by unfold idxOf; omega)
  have hne : ∀ k, k < t → lst k → ∀ d' T' lc', L[k]? = some (.mk d' T' lc') → βs β (idxOf st L i) w'.heap.size (idxOf st L k) = β (idxOf st L k) := by
    intro k hk hl d' T' lc' hg
    have e : idxOf st L k ≠ idxOf st L i := by
      have hki : k ≠ i := fun e => hn (e ▸ hl)
      unfold idxOf
      rcases Nat.lt_or_ge k i with h1 | h1
      · have := cnt_lt (L := L) (i := i) (by omega) h1 hg; omega
      · have := cnt_lt (L := L) (i := k) (by omega) (show i < k by omega) hh; omega
    unfold βs
    rw [if_neg e]
  have hcomp : ∀ {η' β'}, Comp st t L β0 (fun k => k = i ∨ lst k) v (βs β (idxOf st L i) w'.heap.size) η' β' → Comp st t L β0 lst v β η' β' ∧ β' (idxOf st L i) = w'.heap.size := fun q =>
    ⟨⟨fun k hk hl => q.res k hk (.inr hl), q.old, fun k hk hl d T lc hg => (q.blk k hk (.inr hl) d T lc hg).trans (hne k hk hl d T lc hg)⟩, by rw [q.blk i hi (.inl rfl) d T lc hh]; exact βs_same⟩
  have hSLm : ∀ b, b < w'.heap.size → SL c st t L β0 lst β b → SL c st t L β0 (fun k => k = i ∨ lst k) (βs β (idxOf st L i) w'.heap.size) b := by
    intro b hb q
    refine ⟨q.1, fun k hk hl d' T' lc' hg => ?_⟩
    by_cases e : k = i
    · subst e; rw [βs_same]; omega
    · rcases hl with e' | hl
      · exact absurd e' e
      · rw [hne k hk hl d' T' lc' hg]; exact q.2 k hk hl d' T' lc' hg
  have hsz : (w'.alloc (.cells cs.toArray T)).heap.size = w'.heap.size + 1 := by simp
  refine ⟨h.ext.trans hk, fun j hj => (hold j hj).trans (h.old j hj), fun s hs => ?_, ?_, ?_, stl_add h.stl (fun k l e => by rw [hh] at e; cases e), ?_, G.keep (G.mono h.gh hSLm) (.of hk), ?_⟩
  · rw [upd_eq, if_neg (show ¬ d = s from fun e => hs i hi _ hh (congrArg some e))]
    exact h.out s hs
  · intro k hk' hl g hg d' hd' η' β' hc
    obtain ⟨hc1, hc2⟩ := hcomp hc
    rw [upd_eq]
    split
    · rename_i e
      obtain rfl := hu k hk' g hg (by rw [hd', e])
      rw [hh] at hg
      cases hg
      have e3 : β' (st.hp.length + cnt (accAt L k)) = w'.heap.size := hc2
      refine ⟨?_, hMi⟩
      simp only [HRec.sv, SV.den, Ch.den, e3]
    · rename_i e
      rcases hl with rfl | hl
      · rw [hh] at hg; cases hg; exact absurd (by simpa [HRec.d] using hd') e
      · exact h.val k hk' hl g hg d' hd' η' β' hc1
  · intro k hk' hl d' T' lc' hg
    by_cases e : k = i
    · subst e
      rw [hh] at hg
      cases hg
      rw [βs_same]
      refine ⟨h.ext.size, by omega, lc, .inl ⟨rfl, fun j l' hj hl hg => ?_⟩, fun η' β' hc => ?_⟩
      · rcases hl with rfl | hl
        · rw [hh] at hg; cases hg
        · exact hn (h.stl j hj hl _ _ hg).1
      obtain ⟨h1, h2⟩ := hx η' β' (hcomp hc).1
      rw [← h1]
      exact ⟨Blk.new _ _ _, h2⟩
    · rcases hl with e' | hl
      · exact absurd e' e
      · rw [hne k hk' hl d' T' lc' hg]
        obtain ⟨h1, h2, lf, hC, h3⟩ := h.made k hk' hl d' T' lc' hg
        exact ⟨h1, by omega, lf, hC.add (fun l' e' => by rw [hh] at e'; cases e'), fun η' β' hc => ⟨(h3 η' β' (hcomp hc).1).1.to hk, (h3 η' β' (hcomp hc).1).2⟩⟩
  · intro k k' hk' hk2 hl hl' d1 T1 l1 d2 T2 l2 hg hg' he
    by_cases e : k = i
    · by_cases e' : k' = i
      · rw [e, e']
      · rcases hl' with e2 | hl'
        · exact absurd e2 e'
        · subst e
          rw [βs_same, hne k' hk2 hl' _ _ _ hg'] at he
          have := (h.made k' hk2 hl' _ _ _ hg').2.1
          omega
    · rcases hl with e2 | hl
      · exact absurd e2 e
      · by_cases e' : k' = i
        · subst e'
          rw [βs_same, hne k hk' hl _ _ _ hg] at he
          have := (h.made k hk' hl _ _ _ hg).2.1
          omega
        · rcases hl' with e2 | hl'
          · exact absurd e2 e'
          · rw [hne k hk' hl _ _ _ hg, hne k' hk2 hl' _ _ _ hg'] at he
            exact h.apart k k' hk' hk2 hl hl' _ _ _ _ _ _ hg hg' he
  · intro k hk' hl d' p Δ hg
    rcases hl with rfl | hl
    · rw [hh] at hg; cases hg
    · exact (Δ (v k)).keep ((Δ (v k)).mono (h.spec k hk' hl d' p Δ hg) hSLm) (.of hk)
/-- A store into a block of the head's own. -/
theorem HInv.store {lst : Nat → Prop} {ρ' : Fr} {v : Nat → Value} {β : Nat → Nat} {w' w2 : World} (h : HInv c st G t M L β0 ρ0 w00 lst ρ' v β w') {i k0 d0 : Nat} {T0 : TypeId} {l lc0 : (Nat → Value) → List Ch} (hi : i < t) (hk0 : k0 < t) (hlk : lst k0) (hh : L[i]? = some (.st k0 l)) (hh0 : L[k0]? = some (.mk d0 T0 lc0))
    (hord : ∀ j l', j < t → L[j]? = some (.st k0 l') → (lst j ↔ j < i)) (hk : Wrt (β (idxOf st L k0)) w' w2) (hx : ∀ η' β', Comp st t L β0 lst v β η' β' → Blk w2 (β (idxOf st L k0)) T0 (cellsL β' (l η')) ∧ ∀ ch ∈ l η', ch.Ok M) :
    HInv c st G t M L β0 ρ0 w00 (fun k => k = i ∨ lst k) ρ' v β w2 := by
  have hcomp : ∀ {η' β'}, Comp st t L β0 (fun k => k = i ∨ lst k) v β η' β' → Comp st t L β0 lst v β η' β' := fun q => ⟨fun k hk hl => q.res k hk (.inr hl), q.old, fun k hk hl => q.blk k hk (.inr hl)⟩
  have hSL : SL c st t L β0 (fun k => k = i ∨ lst k) β = SL c st t L β0 lst β := by
    funext b
    refine propext ⟨fun q => ⟨q.1, fun k hk hl => q.2 k hk (.inr hl)⟩, fun q => ⟨q.1, fun k hk hl d' T lc hg => ?_⟩⟩
    rcases hl with rfl | hl
    · rw [hh] at hg; cases hg
    · exact q.2 k hk hl d' T lc hg
  have hm0 := h.made k0 hk0 hlk _ _ _ hh0
  have hkS : Keeps (SL c st t L β0 lst β) w' w2 := hk.mono fun b q e => q.2 k0 hk0 hlk _ _ _ hh0 e.symm
  refine ⟨Keeps.later h.ext hk fun b hb _ e => by omega, h.old, h.out, ?_, ?_, ?_, ?_, hSL ▸ G.keep h.gh hkS, ?_⟩
  · intro k hk' hl g hg d' hd' η' β' hc
    rcases hl with rfl | hl
    · rw [hh] at hg; cases hg; cases hd'
    · exact h.val k hk' hl g hg d' hd' η' β' (hcomp hc)
  · intro k hk' hl d' T lc hg
    rcases hl with rfl | hl
    · rw [hh] at hg; cases hg
    · obtain ⟨h1, h2, lf, hC, h3⟩ := h.made k hk' hl d' T lc hg
      by_cases e : k = k0
      · subst e
        rw [hh0] at hg
        cases hg
        refine ⟨h1, Nat.lt_of_lt_of_le h2 hk.size, l, .inr ⟨i, hi, .inl rfl, hh, fun j' l' hj' hl' hg' => ?_⟩, fun η' β' hc => hx η' β' (hcomp hc)⟩
        rcases hl' with rfl | hl'
        · exact Nat.le_refl _
        · exact Nat.le_of_lt ((hord j' l' hj' hg').1 hl')
      · refine ⟨h1, Nat.lt_of_lt_of_le h2 hk.size, lf, hC.add (fun l' e' => by rw [hh] at e'; cases e'; exact e rfl), fun η' β' hc => ?_⟩
        obtain ⟨h4, h5⟩ := h3 η' β' (hcomp hc)
        refine ⟨h4.wr hk fun e' => e (h.apart k k0 hk' hk0 hl hlk _ _ _ _ _ _ hg hh0 e'), h5⟩
  · intro j hj hl k l' hg
    rcases hl with rfl | hl
    · rw [hh] at hg
      cases hg
      exact ⟨.inr hlk, fun j' l' hj' hg' => .inr ((hord j' l' (by omega) hg').2 hj')⟩
    · obtain ⟨h1, h2⟩ := h.stl j hj hl k l' hg
      exact ⟨.inr h1, fun j' l' hj' hg' => .inr (h2 j' l' hj' hg')⟩
  · intro k k' hk1 hk2 hl hl' d1 T1 l1 d2 T2 l2 hg hg'
    rcases hl with rfl | hl
    · rw [hh] at hg; cases hg
    · rcases hl' with rfl | hl'
      · rw [hh] at hg'; cases hg'
      · exact h.apart k k' hk1 hk2 hl hl' _ _ _ _ _ _ hg hg'
  · intro k hk' hl d' p Δ hg
    rw [hSL]
    rcases hl with rfl | hl
    · rw [hh] at hg; cases hg
    · exact (Δ (v k)).keep (h.spec k hk' hl d' p Δ hg) hkS
/-- At the end: the state in the text's order. -/
theorem HInv.sat {lst : Nat → Prop} {ρ' : Fr} {v : Nat → Value} {β : Nat → Nat} {w' : World} (hS : Sat c.w0.heap.size st β0 ρ0 w00) (hw : Ext c.w0 w00) (hlen : L.length = t) (hM : M = st.hp.length + cnt (accAt L t)) (h : HInv c st G t M L β0 ρ0 w00 lst ρ' v β w') (hall : ∀ k, k < t → lst k) :
    Sat c.w0.heap.size ⟨frH st (accAt L t) v, st.hp ++ accNw v (accAt L t)⟩ β ρ' w' ∧ (accG G v (accAt L t)).p (Sof c.S0 β (st.hp ++ accNw v (accAt L t))) w' := by
  have hc := h.comp
  have hlen2 : (st.hp ++ accNw v (accAt L t)).length = M := by rw [List.length_append, cnt_eq, hM]
  have hnew : ∀ i x, (st.hp ++ accNw v (accAt L t))[i]? = some x → (i < st.hp.length ∧ st.hp[i]? = some x) ∨ ∃ k d T lc, k < t ∧ L[k]? = some (.mk d T lc) ∧ i = idxOf st L k ∧ x = .blk T (((stOf (accAt L t) k).getD lc) v) := by
    intro i x hx
    by_cases hi : i < st.hp.length
    · rw [List.getElem?_append_left hi] at hx
      exact .inl ⟨hi, hx⟩
    · rw [List.getElem?_append_right (by omega)] at hx
      obtain ⟨n, d, T, lc, r, h1, h2, h3⟩ := accNw_get hx
      obtain ⟨k, hk, h4, h5⟩ := accAt_of (by omega) h1
      refine .inr ⟨k, d, T, lc, hk, h4, ?_, by rw [h3, h5, accAt_len (by omega)]⟩
      unfold idxOf
      rw [← h5]
      omega
  have hmine : ∀ i b, mineAt β (st.hp ++ accNw v (accAt L t)) i = some b → (i < st.hp.length ∧ mineAt β0 st.hp i = some b) ∨ ∃ k d T lc, k < t ∧ L[k]? = some (.mk d T lc) ∧ i = idxOf st L k ∧ b = β (idxOf st L k) := by
    intro i b hb
    unfold mineAt at hb
    cases hx : (st.hp ++ accNw v (accAt L t))[i]? with
    | none => rw [hx] at hb; cases hb
    | some x =>
      rw [hx] at hb
      simp only [Option.bind_some] at hb
      rcases hnew i x hx with ⟨h1, h2⟩ | ⟨k, d, T, lc, h1, h2, h3, h4⟩
      · refine .inl ⟨h1, ?_⟩
        unfold mineAt
        rw [h2]
        simp only [Option.bind_some]
        rw [← h.old i h1]
        exact hb
      · subst h4
        simp only [HE.mine, Option.some.injEq] at hb
        exact .inr ⟨k, d, T, lc, h1, h2, h3, by rw [← hb, h3]⟩
  have hlow : ∀ i b, mineAt β0 st.hp i = some b → b < w00.heap.size := fun i b hb => (hS.mem.low i b hb).2
  have hMem0 := (hS.mem.to h.ext).congr h.old
  refine ⟨⟨fun s => ?_, ⟨?_, ?_, ?_, ?_⟩⟩, ?_⟩
  · rw [hlen2]
    exact head_kn hS (by omega) h (by omega) (Nat.le_refl _) (fun k hk _ _ _ => ⟨hk, hall k hk⟩) hc
  · intro i T l' hi
    rw [hlen2]
    rcases hnew i _ hi with ⟨h1, h2⟩ | ⟨k, d, T', lc, h1, h2, h3, h4⟩
    · obtain ⟨e1, e2⟩ := hMem0.blk i T l' h2
      exact ⟨e1, fun ch hch => (e2 ch hch).le (by omega)⟩
    · simp only [HE.blk.injEq] at h4
      obtain ⟨rfl, rfl⟩ := h4
      rw [h3]
      obtain ⟨_, _, lf, hC, h5⟩ := h.made k h1 (hall k h1) d T lc h2
      rw [hC.eq (by omega) (Nat.le_refl _) fun j l' hj _ => ⟨fun _ => hj, fun _ => hall j hj⟩]
      exact h5 v β hc
  · intro i T s x n cs hi
    rcases hnew i _ hi with ⟨h1, h2⟩ | ⟨k, d, T', lc, h1, h2, h3, h4⟩
    · exact hMem0.row i T s x n cs h2
    · cases h4
  · intro i b hb
    rcases hmine i b hb with ⟨h1, h2⟩ | ⟨k, d, T', lc, h1, h2, h3, h4⟩
    · exact ⟨(hS.mem.low i b h2).1, Nat.lt_of_lt_of_le (hS.mem.low i b h2).2 h.ext.size⟩
    · obtain ⟨e1, e2, _⟩ := h.made k h1 (hall k h1) d T' lc h2
      have := hw.size
      exact ⟨by omega, by omega⟩
  · intro i j b hi hj
    rcases hmine i b hi with ⟨h1, h2⟩ | ⟨k, d, T', lc, h1, h2, h3, h4⟩
    · rcases hmine j b hj with ⟨h5, h6⟩ | ⟨k', d', T2, lc', h5, h6, h7, h8⟩
      · exact hS.mem.apart i j b h2 h6
      · have e1 := hlow i b h2
        have e2 := (h.made k' h5 (hall k' h5) d' T2 lc' h6).1
        omega
    · rcases hmine j b hj with ⟨h5, h6⟩ | ⟨k', d', T2, lc', h5, h6, h7, h8⟩
      · have e1 := hlow j b h6
        have e2 := (h.made k h1 (hall k h1) d T' lc h2).1
        omega
      · have := h.apart k k' h1 h5 (hall k h1) (hall k' h5) _ _ _ _ _ _ h2 h6 (h4.symm.trans h8)
        subst this
        rw [h3, h7]
  · have hSof : ∀ b, b < w'.heap.size → SL c st t L β0 lst β b → Sof c.S0 β (st.hp ++ accNw v (accAt L t)) b := by
      intro b _ q
      refine ⟨q.1.1, fun i hi => ?_⟩
      rcases hmine i b hi with ⟨h1, h2⟩ | ⟨k, d, T', lc, h1, h2, h3, h4⟩
      · exact q.1.2 i h2
      · exact q.2 k h1 (hall k h1) d T' lc h2 h4.symm
    refine accG_p (G.mono h.gh hSof) fun n d p Δ r hd => ?_
    obtain ⟨k, hk, h4, h5⟩ := accAt_of (by omega) hd
    have h6 := (Δ (v k)).mono (h.spec k hk (hall k hk) d p Δ h4) hSof
    rw [h5, accAt_len (by omega)]
    exact h6
end
end Go.Proofs.YtpmnjjmngogkkaaGreatDoor
end

section
set_option linter.unusedVariables false
set_option linter.unusedSimpArgs false
namespace Go.Proofs.YtpmnjjmngogkkaaGreatDoor
open Go Go.RowKit
theorem effM_ok {P : Program} {E : Env} {β : Nat → Nat} {m k : Nat} {fr : List (Nat × SV)} {w : World} {ty : TypeId} {ρ : Operand → Value} {o : Op} {T : TypeId} {l : List Ch} {s : SV} (hE : EnvOk P E) (hk : OpsKn β m fr ρ o) (h : effM E fr k o = some (.mk T l s)) :
    (∀ c ∈ l, c.Ok m) ∧ ∀ d pos aft g, (execOp ρ ⟨d, o, ty, pos, aft, g⟩).run P w = .ok (.value (.pointer (some ⟨w.heap.size, 0, none⟩))) (w.alloc (.cells (cellsL β l).toArray T)) := by
  unfold effM at h
  split at h
  · obtain ⟨rfl, rfl, h1, h2⟩ := effAlloc_ok (P := P) (m := m) (β := β) (w := w) (ρ := ρ) (ty := ty) hE (mkOnly_eq h).1
    exact ⟨h1, h2⟩
  · rename_i T' x
    obtain ⟨rfl, rfl, h1, h2⟩ := effBox_ok (P := P) (w := w) (ty := ty) (hk x (by simp [Op.operands])) (mkOnly_eq h).1
    exact ⟨h1, h2⟩
  · cases h
def drawnOps (o : Out) : List Oper := match o.cur with | .code (.region _ ops _) => ops.toList | _ => []
/-- As drawOkR, but the head may be the whole region. -/
def drawOkS (l : List Oper) (t : Nat) : Bool :=
  headOkR [] 0 (l.take t) && lateOk (l.take t) && Nat.ble t l.length && (Nat.beq t l.length || Region.sinkB .any l.toArray t) && Region.chainB .any l.toArray t && Region.seqB .any l.toArray (l.length - t) t (canonListed t l.length)
def isDrawn (o : Out) (t : Nat) : Bool := match o.cur with | .code (.region _ ops d) => d && drawOkS ops.toList t | _ => false
set_option maxHeartbeats 1000000 in
theorem t_drawn {c : Cx} {o : Out} {G : Gh} (t : Nat) (hmo : c.P.follows .mixedOrders = true) (hc : c.Ok) (hd : isDrawn o t = true)
    (h : Hd c o.st G (drawnOps o) (fun acc => ∀ η, Run c ⟨.ops (drawnOps o) ((drawnOps o).drop t), o.k, ⟨frH o.st acc η, o.st.hp ++ accNw η acc⟩, []⟩ (accG G η acc)) [] ((drawnOps o).take t)) : Run c o G := by
  refine ⟨fun β0 ρ w hS0 hw0 hG0 => ?_⟩
  obtain ⟨cur, k, st, vc⟩ := o
  unfold isDrawn at hd
  cases cur with
  | ops all r => cases hd
  | ex e => cases hd
  | code x =>
  cases x with
  | region id ops d =>
    simp only [Bool.and_eq_true] at hd
    obtain ⟨rfl, hchk⟩ := hd
    have e0 : drawnOps ⟨.code (.region id ops true), k, st, vc⟩ = ops.toList := rfl
    rw [e0] at h
    replace h := h.run
    show Wp c.P c.n (.region id ops true) (kQ c.P c.n c.Q k) ρ w
    rw [show ops = ops.toList.toArray by simp]
    generalize ops.toList = l at h hchk
    simp only [drawOkS, Bool.and_eq_true, Bool.or_eq_true] at hchk
    obtain ⟨⟨⟨⟨⟨c1, c2⟩, c3⟩, c4⟩, c5⟩, c6⟩ := hchk
    have htl : t ≤ l.length := Nat.le_of_ble_eq_true c3
    have htk : (l.take t).length = t := by rw [List.length_take]; omega
    obtain ⟨L, hL, hK, hO⟩ := hd_list _ _ h
    rw [htk] at hL
    simp only [List.append_nil] at hK hO
    have hfull : accAt L t = L.reverse := by unfold accAt; rw [List.take_of_length_le (by omega)]
    have hget : ∀ k (hk : k < t), (l.take t)[k]'(by omega) = l[k] := fun k hk => by simp
    have hHd0 := headOk_listR _ _ _ c1
    have hHd : ∀ k (hk : k < t), HOkR (((List.range k).map fun j => (0 + j, ((l.take t)[j]?.bind (·.dst)))).reverse ++ []) (0 + k) ((l.take t)[k]'(by omega)) := fun k hk => hHd0 k (by omega)
    have hLt := lateOk_list _ c2
    unfold Wp
    intro hcd D act hmt
    simp only [codeOk, List.all_eq_true] at hcd
    refine wp_region_any hmo ?_
    have hd1 : Ext w { w with drawn := w.drawn + 1 } := ext_drew w
    have hsz : l.toArray.size = t + (l.length - t) := by simp; omega
    have hS := hS0.to hd1
    have hw := hw0.trans hd1
    have hG := G.keep hG0 (.of hd1)
    generalize hw1 : ({ w with drawn := w.drawn + 1 } : World) = w1 at hS hw hG
    have hrec : ∀ k (hk : k < t), ∃ h, L[k]? = some h ∧ l[k].dst = h.d ∧ (∀ d, h.d = some d → Nat.blt d c.n = true) ∧ Loc c st G l (accAt L k) l[k] h := by
      intro k hk
      obtain ⟨h, h1, h2⟩ := hO k (by omega)
      rw [hget k hk] at h2
      have h3 : l[k].dst = h.d := by cases h <;> exact h2.1
      have h4 := hcd l[k] (by simp)
      refine ⟨h, h1, h3, fun d hd => ?_, h2⟩
      rw [hd] at h3
      simpa [dstOk, h3] using h4
    have hdk : ∀ k (hk : k < t) h, L[k]? = some h → l[k].dst = h.d := by
      intro k hk h hh
      obtain ⟨h', h1, h2, _⟩ := hrec k hk
      rw [h1] at hh
      cases hh
      exact h2
    have hapart : ∀ j k (hj : j < t) (hk : k < t) d, j < k → l[j].dst = some d → l[k].dst ≠ some d := by
      intro j k hj hk d hjk hd hd2
      have hne := (hHd k hk).dst d (by rw [hget k hk, hd2])
      refine hne (0 + j, ((l.take t)[j]?.bind (·.dst))) ?_ ?_
      · refine List.mem_append_left _ (List.mem_reverse.2 (List.mem_map.2 ⟨j, List.mem_range.2 hjk, rfl⟩))
      · rw [List.getElem?_eq_getElem (by omega)]
        simp only [Option.bind_some, hget j hj, hd]
    have huniq : ∀ j k (hj : j < t) (hk : k < t) d, l[j].dst = some d → l[k].dst = some d → j = k := by
      intro j k hj hk d h1 h2
      rcases Nat.lt_trichotomy j k with h | h | h
      · exact absurd h2 (hapart j k hj hk d h h1)
      · exact h
      · exact absurd h1 (hapart k j hk hj d h h2)
    let M := st.hp.length + cnt (accAt L t)
    have hMle : st.hp.length ≤ M := Nat.le_add_right _ _
    let lsd : Array Bool → Nat → Prop := fun listed k => listed.getD k false = true
    let Inv : Array Bool → Act → World → Prop := fun listed a w' => ∃ ρ' v β, Mt c.n D a ρ' ∧ HInv c st G t M L β0 ρ w1 (lsd listed) ρ' v β w'
    have fin : ∀ listed a w', HeadInv .any l.toArray t listed → unl listed t = 0 → Inv listed a w' → wpAny c.P .any l.toArray (lift c.n D (kQ c.P c.n c.Q k)) (l.length - t) listed a w' := by
      rintro listed a w' inv h0 ⟨ρ', v, β, hm', hI⟩
      have hz := unl_zero h0
      have hcan : listed = canonListed t l.length := by
        refine Array.ext (by rw [inv.size]; simp [canonListed]) fun i h1 h2 => ?_
        have hsz2 := inv.size
        have hil : i < l.length := by simpa [hsz2] using h1
        by_cases hit : i < t
        · have h3 := hz i hit
          simp only [Array.getD, h1, dite_true] at h3
          have h4 : listed[i] = true := h3
          simp [canonListed, h4, hit]
        · have h3 := inv.tail i (by omega) (by simpa using hil)
          simp only [Array.getD, h1, dite_true] at h3
          have h4 : listed[i] = false := h3
          simp [canonListed, h4]
          omega
      obtain ⟨hs1, hs2⟩ := hI.sat hS hw hL rfl fun k hk => hz k hk
      have hrun := (hK v).run β ρ' w' (by rw [hfull] at hs1; exact hs1) (hw.trans hI.ext) (by rw [hfull] at hs2; exact hs2)
      have hrun' : WpR c.P c.n l (kQ c.P c.n c.Q k) (l.drop t) ρ' w' := hrun
      unfold WpR at hrun'
      have hlen : (l.drop t).length = l.length - t := by simp
      rw [← hlen]
      refine wpAny_of_seq (l.drop t) t listed a w' (fun j => by simp) ?_ (hrun' ?_ _ a hm')
      · rw [hcan, hlen]; exact c6
      · rw [List.all_eq_true]
        intro o ho
        exact hcd o (by simpa using List.mem_of_mem_drop ho)
    have key : ∀ f listed a w', HeadInv .any l.toArray t listed → unl listed t = f → Inv listed a w' → wpAny c.P .any l.toArray (lift c.n D (kQ c.P c.n c.Q k)) (f + (l.length - t)) listed a w' := by
      intro f
      induction f with
      | zero => intro listed a w' inv h0 hI; rw [Nat.zero_add]; exact fin listed a w' inv h0 hI
      | succ f ih =>
        intro listed a w' inv hf hI
        rw [show f + 1 + (l.length - t) = (f + (l.length - t)) + 1 by omega]
        obtain ⟨i0, hi0, hl0, hlow⟩ := unl_least (show unl listed t ≠ 0 by omega)
        have hsz2 := inv.size
        have hsz3 : listed.size = l.length := by simpa using hsz2
        have hr0 : i0 ∈ Region.ready .any l.toArray listed := by
          rw [mem_ready]
          refine ⟨getD_in (by omega) hl0, l[i0], by simp, fun e he hb => hlow _ ?_⟩
          have := (hHd i0 hi0).low e (by rw [hget i0 hi0]; exact he) hb
          omega
        refine ⟨fun he => absurd (he ▸ hr0) (by simp), fun i hi => ?_⟩
        have hit : i < t := by
          rcases Nat.lt_or_ge i t with h | h
          · exact h
          · rcases c4 with c4 | c4
            · have e := Nat.eq_of_beq_eq_true c4
              obtain ⟨_, oi, hoi, _⟩ := mem_ready.1 hi
              have h2 := (Array.getElem?_eq_some_iff.1 hoi).1
              simp at h2
              omega
            · have htl2 : t < l.length := by
                obtain ⟨_, oi, hoi, _⟩ := mem_ready.1 hi
                have h2 := (Array.getElem?_eq_some_iff.1 hoi).1
                simp at h2
                omega
              exact absurd hi (tail_waits c4 c5 (by simpa using htl2) inv _ i0 rfl hi0 (mem_ready.1 hr0).1 i h)
        obtain ⟨hun, oi, hoi, hdep⟩ := mem_ready.1 hi
        have hoi' : l[i] = oi := by simpa [hit, show i < l.length by omega] using hoi
        obtain ⟨ρ', v, β, hm', hI⟩ := hI
        obtain ⟨hr, h1, h2, h3, h4⟩ := hrec i hit
        have hH := hHd i hit
        rw [hget i hit] at hH
        have hnl : ¬ lsd listed i := fun e => by
          have := getD_both hun
          have e' : listed.getD i false = true := e
          rw [this] at e'
          cases e'
        have hdl : ∀ k, hasEdge l[i].after.toList k = true → lsd listed k := by
          intro k hk
          obtain ⟨ed, h5, h6, h7⟩ := hasEdge_spec hk
          rw [← h7]
          exact hdep ed (by rw [← hoi']; exact Array.mem_toList_iff.1 h5) h6
        have hwait : ∀ k (hk : k < t), k < i → ∀ s, l[k].dst = some s → (s ∈ operTmps l[i] ∨ ∃ b, l[i].guard = some (k, b)) → lsd listed k := by
          intro k hk hki s hks hor
          have h5 := hH.deps (0 + k, ((l.take t)[k]?.bind (·.dst))) (List.mem_append_left _ (List.mem_reverse.2 (List.mem_map.2 ⟨k, List.mem_range.2 hki, rfl⟩))) s (by
            rw [List.getElem?_eq_getElem (by omega)]
            simp only [Option.bind_some, hget k hk, hks])
          rcases h5 with h5 | h5
          · exact hdl k (by simpa using h5)
          · rcases hor with h6 | ⟨b, h6⟩
            · exact absurd h6 h5.1
            · exact absurd (by omega) (h5.2 k b h6)
        have hslot : ∀ s, s ∈ operTmps l[i] → ∀ k, k < t → ∀ h, L[k]? = some h → h.d = some s → k < i ∧ lsd listed k := by
          intro s hso k hk h hh he
          have hks := (hdk k hk h hh).trans he
          have hki : k < i := by
            rcases Nat.lt_or_ge k i with h' | h'
            · exact h'
            · have := hLt i k (by omega) (by omega) h' s (by rw [hget k hk]; exact hks)
              rw [hget i hit] at this
              exact absurd hso this
          exact ⟨hki, hwait k hk hki _ hks (.inl hso)⟩
        have hgslot : ∀ j b, l[i].guard = some (j, b) → ∀ g, dstAt l j = some g → ∀ k, k < t → ∀ h, L[k]? = some h → h.d = some g → k < i ∧ lsd listed k := by
          intro j b hg g hgd k hk h hh he
          have hks := (hdk k hk h hh).trans he
          have hji := hH.guard j b hg
          have hjt : j < t := by omega
          have hjs : l[j].dst = some g := by
            unfold dstAt at hgd
            rw [List.getElem?_eq_getElem (by omega)] at hgd
            simpa using hgd
          obtain rfl := huniq k j hk hjt _ hks hjs
          exact ⟨by omega, hwait k hk (by omega) _ hks (.inr ⟨b, hg⟩)⟩
        have hkn : ∀ {η' β'}, Comp st t L β0 (lsd listed) v β η' β' → OpsKn β' M (frH st (accAt L i) η') (ev ρ') l[i].op := by
          intro η' β' hcp x hx
          refine opd_kn fun s hxs => head_kn hS hMle hI (by omega) (by omega) (hslot s ?_) hcp
          subst hxs
          exact List.mem_filterMap.2 ⟨.tmp s, hx, rfl⟩
        have hgk : ∀ {η' β'}, Comp st t L β0 (lsd listed) v β η' β' → ∀ j b, l[i].guard = some (j, b) → ∀ g, dstAt l j = some g → Kn β' M (look (frH st (accAt L i) η') g) (ρ' g) := by
          intro η' β' hcp j b hg g hgd
          exact head_kn hS hMle hI (by omega) (by omega) (hgslot j b hg g hgd) hcp
        have hdeps : ∀ {η' β'}, Comp st t L β0 (lsd listed) v β η' β' → depsH (accAt L i) l[i].after.toList η' (SL c st t L β0 (lsd listed) β) w' := by
          refine fun {η' β'} hcp => ⟨fun j hj => ?_⟩
          refine accD_p fun n d p Δ r hdr hrl => ?_
          obtain ⟨k, hk, h5, h6⟩ := accAt_of (by omega) hdr
          have hkj : k = j := by rw [← hrl, h6, accAt_len (by omega)]
          subst hkj
          have hlk := hdl k hj
          rw [hcp.res k (by omega) hlk d p Δ h5]
          exact hI.spec k (by omega) hlk d p Δ h5
        have hSL0 : ∀ b, SL c st t L β0 (lsd listed) β b → c.S0 b := fun b q => q.1.1
        have hw' := hw.trans hI.ext
        have hcv := hI.comp
        have hu : ∀ d, hr.d = some d → ∀ k, k < t → ∀ h, L[k]? = some h → h.d = some d → k = i := fun d hd k hk h hh he => huniq k i hk hit d ((hdk k hk h hh).trans he) (h2.trans hd)
        have hset : lsd (listed.setIfInBounds i true) = fun k => k = i ∨ lsd listed k := by
          funext k
          refine propext ⟨fun q => ?_, fun q => ?_⟩
          · by_cases e : k = i
            · exact .inl e
            · refine .inr ?_
              have q' : (listed.setIfInBounds i true).getD k false = true := q
              rw [getD_set_ne false (fun e' => e e'.symm)] at q'
              exact q'
          · show (listed.setIfInBounds i true).getD k false = true
            by_cases e : i = k
            · subst e
              simp [show i < listed.size by omega]
            · rw [getD_set_ne false e]
              rcases q with e' | q
              · exact absurd e'.symm e
              · exact q
        have hnext0 : ∀ x ρ2 w2 v2 β2, Mt c.n D (a.put l[i].dst x) ρ2 → HInv c st G t M L β0 ρ w1 (fun k => k = i ∨ lsd listed k) ρ2 v2 β2 w2 → wpAny c.P .any l.toArray (lift c.n D (kQ c.P c.n c.Q k)) (f + (l.length - t)) (listed.setIfInBounds i true) (a.put l[i].dst x) w2 := by
          intro x ρ2 w2 v2 β2 hm2 hI2
          refine ih _ _ _ (inv.set hi hit) ?_ ⟨ρ2, v2, β2, hm2, hset ▸ hI2⟩
          rw [unl_set (by omega) (getD_both hun), if_pos hit]; omega
        have hnext : ∀ d, hr.d = some d → ∀ x w2 v2 β2, HInv c st G t M L β0 ρ w1 (fun k => k = i ∨ lsd listed k) (upd ρ' d x) v2 β2 w2 → wpAny c.P .any l.toArray (lift c.n D (kQ c.P c.n c.Q k)) (f + (l.length - t)) (listed.setIfInBounds i true) (a.put l[i].dst x) w2 := by
          intro d hd x w2 v2 β2 hI2
          refine hnext0 x _ w2 v2 β2 ?_ hI2
          rw [h2, hd]
          exact hm'.put (h3 d hd) x
        have hio : (l.toArray)[i]? = some l[i] := by simp
        unfold wpOp
        simp only [hio]
        cases hr with
        | val d sv =>
          obtain ⟨_, hv1⟩ := h4
          have hall : ∀ {η' β'}, Comp st t L β0 (lsd listed) v β η' β' → (sv η').Ok M ∧ ((Region.wanted l[i] (yielded l.toArray a.tmps) = true ∧ (execOp (ev ρ') l[i]).run c.P w' = .ok (.value ((sv η').den β')) w') ∨ (Region.wanted l[i] (yielded l.toArray a.tmps) = false ∧ (sv η').den β' = undef)) := by
            intro η' β' hcp
            obtain ⟨s, vc', h5, h6⟩ := hv1 η'
            obtain ⟨h7, h8⟩ := h6 _ w' hw' hSL0 hI.gh (hdeps hcp)
            have hMm : Mem c.w0.heap.size st.hp β' w' := (hS.mem.to hI.ext).congr hcp.old
            obtain ⟨h9, h10⟩ := hval_ok hc.env hMle hm' hMm (hkn hcp) (hgk hcp) h5 h7
            obtain ⟨e1, e2⟩ := h8 β'
            rw [e1] at h10
            exact ⟨e2 M h9, h10⟩
          obtain ⟨g1, g2⟩ := hall hcv
          rcases g2 with ⟨g2, g3⟩ | ⟨g2, g3⟩
          · rw [if_pos g2]
            left
            unfold Oper.wp
            rw [hm'.eval, g3]
            refine hnext d rfl _ w' v β (hI.put hit h1 (hu d rfl) fun η' β' hcp => ?_)
            obtain ⟨g4, g5⟩ := hall hcp
            refine ⟨?_, g4⟩
            rcases g5 with ⟨_, g5⟩ | ⟨g5, _⟩
            · rw [g3] at g5
              simpa using g5
            · rw [g2] at g5; cases g5
          · rw [if_neg (by rw [g2]; simp)]
            have g6 := hnext d rfl undef w' v β (hI.put hit h1 (hu d rfl) fun η' β' hcp => ?_)
            · exact g6
            · obtain ⟨g4, g5⟩ := hall hcp
              refine ⟨?_, g4⟩
              rcases g5 with ⟨g5, _⟩ | ⟨_, g5⟩
              · rw [g2] at g5; cases g5
              · exact g5.symm
        | mk d T lc =>
          obtain ⟨_, hv1⟩ := h4
          have hall : ∀ {η' β'}, Comp st t L β0 (lsd listed) v β η' β' → (∀ ch ∈ lc η', ch.Ok M) ∧ (execOp (ev ρ') l[i]).run c.P w' = .ok (.value (.pointer (some ⟨w'.heap.size, 0, none⟩))) (w'.alloc (.cells (cellsL β' (lc η')).toArray T)) := by
            intro η' β' hcp
            obtain ⟨g1, g2⟩ := effM_ok (P := c.P) (w := w') (ty := l[i].type) hc.env (hkn hcp) (hv1 η').2
            exact ⟨g1, g2 _ _ _ _⟩
          obtain ⟨g1, g2⟩ := hall hcv
          rw [if_pos (guardRun_ok hm' (hgk hcv) (hv1 v).1)]
          left
          unfold Oper.wp
          rw [hm'.eval, g2]
          refine hnext d rfl _ _ v _ (hI.new hS hL hit hnl h1 (hu d rfl) ?_ fun η' β' hcp => ?_)
          · have := cnt_lt (L := L) (i := t) (by omega) hit h1
            show st.hp.length + cnt (accAt L i) < st.hp.length + cnt (accAt L t)
            omega
          · obtain ⟨g3, g4⟩ := hall hcp
            refine ⟨?_, g3⟩
            rw [g2] at g4
            simp only [Result.ok.injEq, true_and] at g4
            have g5 := congrArg (fun w : World => w.heap[w'.heap.size]?) g4
            simp only [heap_alloc_new] at g5
            simpa using g5
        | st k0 lv =>
          obtain ⟨hdn, he0, hprev, d0, T0, lc0, hmk0, hv1⟩ := h4
          have hki : k0 < i := by
            have h5 := (List.getElem?_eq_some_iff.1 hmk0).1
            simp at h5
            omega
          have hback : ∀ j, j < i → (accAt L i).reverse[j]? = L[j]? := fun j hj => by
            unfold accAt
            rw [List.reverse_reverse, List.getElem?_take, if_pos hj]
          have hL0 : L[k0]? = some (.mk d0 T0 lc0) := by rw [← hback k0 hki]; exact hmk0
          have hlk := hdl k0 he0
          have hord : ∀ j l', j < t → L[j]? = some (HRec.st k0 l') → (lsd listed j ↔ j < i) := by
            intro j l' hj hg
            refine ⟨fun hlj => ?_, fun hji => hdl j (hprev j l' (by rw [hback j hji]; exact hg))⟩
            rcases Nat.lt_trichotomy j i with h | h | h
            · exact h
            · exact absurd (h ▸ hlj) hnl
            · exact absurd ((hI.stl j hj hlj k0 l' hg).2 i lv h h1) hnl
          have hdrop : (accAt L i).drop ((accAt L i).length - k0) = accAt L k0 := by
            have h5 := accAt_drop (by omega) hki hL0
            rw [accAt_len (by omega)]
            have h6 := congrArg (List.drop 1) h5
            rw [List.drop_drop] at h6
            rw [show i - k0 = i - 1 - k0 + 1 by omega]
            simpa using h6
          obtain ⟨m1, m2, lf, hC, m3⟩ := hI.made k0 (by omega) hlk d0 T0 lc0 hL0
          have hcur := hC.eq (show i ≤ L.length by omega) (by omega) hord
          have hidx : idxOf st L k0 = st.hp.length + cnt (accAt L k0) := rfl
          have hall : ∀ {η' β'}, Comp st t L β0 (lsd listed) v β η' β' → (∀ ch ∈ lv η', ch.Ok M) ∧ ∃ w2, Wrt (β (idxOf st L k0)) w' w2 ∧ Blk w2 (β (idxOf st L k0)) T0 (cellsL β' (lv η')) ∧ (execOp (ev ρ') l[i]).run c.P w' = .ok .skip w2 := by
            intro η' β' hcp
            obtain ⟨b1, b2⟩ := m3 η' β' hcp
            have e1 : β' (idxOf st L k0) = β (idxOf st L k0) := hcp.blk k0 (by omega) hlk d0 T0 lc0 hL0
            have h5 := (hv1 η').2
            rw [hcur, hdrop, ← hidx] at h5
            obtain ⟨g1, w2, g2, g3, g4⟩ := effSt_ok (P := c.P) (ty := l[i].type) hc.env (hkn hcp) b2 (e1 ▸ b1) h5
            rw [e1] at g2 g3
            exact ⟨g1, w2, g2, g3, g4 _ _ _ _⟩
          obtain ⟨g1, w2, g2, g3, g4⟩ := hall hcv
          rw [if_pos (guardRun_ok hm' (hgk hcv) (hv1 v).1)]
          left
          unfold Oper.wp
          rw [hm'.eval, g4]
          refine hnext0 undef ρ' w2 v β (by rw [h2]; exact hm') (hI.store hit (by omega) hlk h1 hL0 hord g2 fun η' β' hcp => ?_)
          obtain ⟨g5, w3, g6, g7, g8⟩ := hall hcp
          rw [g4] at g8
          simp only [Result.ok.injEq, true_and] at g8
          subst g8
          exact ⟨g7, g5⟩
        | spec d p Δ =>
          obtain ⟨_, hv1⟩ := h4
          obtain ⟨g1, g2⟩ := hv1 v
          have hup : Up (SL c st t L β0 (lsd listed) β) w' := fun b hb => ⟨⟨hc.up b (Nat.le_trans hw'.size hb), fun j hj => by
              have q1 := (hS.mem.low j b hj).2
              have q2 := hI.ext.size
              omega⟩, fun j hj hlj d' T lc hg => by
              have q1 := (hI.made j hj hlj d' T lc hg).2.1
              omega⟩
          have g3 := g2 β _ w' ρ' M (hkn hcv) hup hSL0 hw' hI.gh (hdeps hcv)
          rw [if_pos (guardRun_ok hm' (hgk hcv) g1)]
          left
          unfold Oper.wp
          rw [hm'.eval]
          unfold OpRun at g3
          split at g3
          · rename_i x w2 hx
            rw [hx]
            obtain ⟨q1, q2, q3, q4⟩ := g3
            exact hnext d rfl x w2 _ β (hI.res hit hnl h1 (hu d rfl) q1 q2 q3 q4)
          · rename_i f' args w2 hx
            rw [hx]
            show Calls _ _ _ _ _
            unfold GivesE at g3
            rw [Array.toArray_toList] at g3
            have hw2 : w2 = w2 := rfl
            refine Calls.mono g3 fun e w3 he => ?_
            cases e with
            | returned x =>
              obtain ⟨q1, q2, q3, q4⟩ := he
              exact hnext d rfl x w3 _ β (hI.res hit hnl h1 (hu d rfl) q1 q2 q3 q4)
            | panicked ch => exact ⟨ρ', hm', kQ_panic (he ρ')⟩
            | outgrown => exact he.elim
          · exact g3.elim
    have hs := key t (Array.replicate l.toArray.size false) act w1
      ⟨by simp, fun j oj _ hl => (by rw [getD_replicate_false] at hl; cases hl), fun k _ hk => getD_in (by simpa using hk) (getD_replicate_false _ _)⟩
      (unl_new _ _ (by simp; omega)) ⟨ρ, fun _ => undef, β0, hmt, ?_⟩
    · rwa [← hsz] at hs
    · have hno : ∀ k, ¬ lsd (Array.replicate l.toArray.size false) k := fun k e => by
        have e' : (Array.replicate l.toArray.size false).getD k false = true := e
        rw [getD_replicate_false] at e'
        cases e'
      refine ⟨.refl, fun _ _ => rfl, fun _ _ => rfl, fun k _ hk => absurd hk (hno k), fun k _ hk => absurd hk (hno k), fun k _ hk => absurd hk (hno k), fun k _ _ _ hk => absurd hk (hno k), G.mono hG fun b _ q => ⟨q, fun k _ hk => absurd hk (hno k)⟩, fun k _ hk => absurd hk (hno k)⟩
  | _ => cases hd
end Go.Proofs.YtpmnjjmngogkkaaGreatDoor
end
