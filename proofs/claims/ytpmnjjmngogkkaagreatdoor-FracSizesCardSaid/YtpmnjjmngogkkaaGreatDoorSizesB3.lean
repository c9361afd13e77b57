/- Dbl Ref1 Ref5 Plus Fld Fits StrR Shelf2 IsDig IParse Cut RParse Chk Take Ratio Sim Refu Awake SymV SymE SymF -/
import Derived.Test.YtpmnjjmngogkkaaGreatDoorSizesB2
import Derived.Test.YtpmnjjmngogkkaaGreatDoorSizesB1
import Derived.Shelf.Strings.Builder1
import Derived.Shelf.Strings.Builder2
import Derived.Shelf.Strings.Trim
import Derived.Shelf.Small.Utf8
import Derived.Shelf.Small.Strs
import Derived.Shelf.Small.Wraps
import Derived.Shelf.Strings.BuilderF
import Derived.Shelf.Strings.BuilderK
import Derived.Shelf.Strings.Builder2Cap
import Derived.Shelf.Strconv.Atoi
import Derived.Shelf.Strconv.Itoa0
import Derived.Shelf.Strconv.Itoa1
import Derived.Shelf.LaysM
import Derived.Shelf.Strconv.Itoa2
import Derived.Shelf.Strconv.Itoa3
import Derived.Shelf.Strconv.AtoiErrFast
import Derived.Shelf.Strconv.ParseIntEmpty
import Derived.Shelf.Strconv.AtoiFail
import Derived.Shelf.Strconv.Clone
import Derived.Shelf.Strconv.SyntaxError
import Derived.Shelf.LaysC
import Derived.Shelf.Strconv.ToError
import Derived.Shelf.Strconv.AtoiErr
import Derived.Shelf.Strconv.ErrVar
import Derived.Shelf.Strconv.Lower
import Derived.Shelf.Strconv.ParseUint10
import Derived.Shelf.Strconv.ParseUint10Empty
import Derived.Shelf.Strconv.ParseUint10Any
import Derived.Shelf.Strconv.ParseInt10
import Derived.Shelf.Strconv.AtoiLong
import Derived.Shelf.Strconv.AtoiInnerAll
import Derived.Shelf.Strconv.RangeError
import Derived.Shelf.Strconv.ToErrorRange
import Derived.Shelf.Strconv.AtoiAll
import Derived.Shelf.Strconv.ErrVarAll
import Derived.Shelf.Strconv.ParseUintEmpty
import Derived.Shelf.Strconv.ParseUint10b64
import Derived.Shelf.Strconv.ParseUint10b32
import Derived.Shelf.Strconv.ParseUint10b16
import Derived.Shelf.Strconv.ParseUint10b8
import Derived.Shelf.Strconv.ParseUint10At
import Derived.Shelf.Strconv.ParseInt10At64
import Derived.Shelf.Strconv.ParseInt10At32
import Derived.Shelf.Strconv.ParseInt10At16
import Derived.Shelf.Strconv.ParseInt10At8
import Derived.Shelf.Strconv.ParseInt10All
import Derived.Shelf.Strconv.ParseIntPublic10
import Derived.Shelf.Strconv.ErrVarParseInt
import Derived.Shelf.Strings.Search1
import Derived.Shelf.Strings.Search2
import Derived.Shelf.Strings.Cut
import Derived.Shelf.Strings.Shaped
import Derived.Shelf.Strings.Prefix
import Derived.Shelf.Unicode.Decode
import Derived.Shelf.Strings.Runes
import Derived.Shelf.Strings.AsciiSet
import Derived.Shelf.Bits.Mul64
import Derived.Shelf.Strings.Repeat
import Derived.Shelf.Unicode.DecodeSlow
import Derived.Shelf.Unicode.DecodeAny
import Derived.Shelf.Unicode.DecodeLast
import Derived.Shelf.Strings.BuilderCap
import Derived.Test.YtpmnjjmngogkkaaGreatDoorProg
import Derived.Shelf.Strings.SlTrimAscii
import Derived.Lib.IndexLaws
import Derived.Laws.IdiomStrings
section
set_option linter.unusedVariables false
set_option linter.unusedSimpArgs false
namespace Go.Proofs.YtpmnjjmngogkkaaGreatDoor
open Go Go.RowKit
section rules
variable {P : Program} {n : Nat} {Q : Post} {ρ : Fr} {w : World} {all rest : List Oper} {d : Tmp} {ty : TypeId} {pos : String} {aft : Array Edge}
/-- x << n -/
theorem r_shl {x y : Operand} {xt yt : TypeId} {a b c : Int} (m : Nat) (hx : ev ρ x = .int .i64 a) (hy : ev ρ y = .int .u64 b) (hb : b = (m : Int)) (hm : m ≤ 62) (hc : IntKind.i64.wrap (a * 2 ^ m) = c)
    (h : WpR P n all Q rest (upd ρ d (.int .i64 c)) w) : WpR P n all Q (⟨some d, .binOp .shl xt x y yt, ty, pos, aft, none⟩ :: rest) ρ w := by
  subst hb hc
  refine r_val rfl rfl ?_ h
  have h1 : ¬ ((m : Int) < 0) := by omega
  have h2 : min m 64 = m := by omega
  simp [execOp, hx, hy, eqGuard, binOp, Op.shift, h1, IntKind.bits, h2]
end rules
theorem from_c {S : Nat → Prop} {w : World} {v : Value} {z : Int} (hS : Up S w) (h : IntV S 127 .u32 w v z) :
    Gives Tryz.prog 52 [v] w fun v' w' => Ext w w' ∧ RatV S w' v' (z : Rat) := by
  obtain ⟨m, rfl, hm⟩ := h
  refine gives_of Tryz.func52 rfl rfl rfl ?_
  have k : Ext w w := .refl
  repeat (first | refine wp_seq_region ?_ | refine wp_seq_seq ?_ | refine wp_seq_bregion ?_ | refine wp_seq_bseq ?_ | refine wp_seq_skip ?_ | refine wp_region ?_ | refine r_move (by conv => (lhs; whnf)) ?_ | refine r_assign (by conv => (lhs; whnf)) ?_ | refine r_nil ?_ | refine q_then ?_ | refine wp_block_region ?_ | refine wp_block_seq ?_ | refine wp_block_cond ?_ | refine wp_block_block ?_ | refine wp_block_skip ?_ | refine wp_ret ?_ | refine q_then_ret ?_ | refine q_block_ret ?_ | refine wp_skip ?_ | refine wp_exit ?_ | refine q_then_exit ?_ | refine q_block ?_ | refine q_block_hit rfl ?_ | refine q_block_miss rfl ?_ | refine r_extract rfl rfl ?_ | refine r_len_sl rfl ?_ | refine r_len (by conv => (lhs; whnf)) (by assumption) ?_ | refine r_len_str rfl ?_ | refine r_guard_run rfl rfl ?_ | refine r_guard_skip rfl rfl rfl ?_ | refine r_guard_undef rfl rfl ?_ | refine r_pick_true rfl (by conv => (lhs; whnf)) ?_ | refine r_pick_false rfl (by conv => (lhs; whnf)) ?_ | refine r_lss rfl rfl ?_ | refine r_eql rfl rfl ?_ | refine r_neq rfl rfl ?_ | refine r_gtr rfl rfl ?_ | refine r_geq rfl rfl ?_ | refine r_leq rfl rfl ?_ | refine r_addI rfl rfl (by omega) (by omega) ?_ | refine r_subI rfl rfl (by omega) (by omega) ?_ | refine r_index_sl rfl rfl (by omega) (by omega) ?_ | refine r_index (by conv => (lhs; whnf)) rfl (by assumption) (by omega) (by omega) ?_ | refine r_conv rfl (wrap_i64 (by omega) (by omega)) ?_ | refine r_conv rfl (wrap_u64 (by omega) (by omega)) ?_ | refine r_conv rfl (wrap_u32 (by omega) (by omega)) ?_ | refine r_remP rfl rfl (by omega) (by omega) ?_ | refine r_quoU rfl rfl (by omega) (by omega) (by omega) ?_ | refine r_quoI rfl rfl (by omega) (by omega) (by omega) ?_ | refine r_max rfl rfl ?_ | refine r_min rfl rfl ?_ | refine r_notB rfl ?_ | refine r_not rfl ?_ | refine r_eqlB rfl rfl ?_ | refine r_neqB rfl rfl ?_ | refine r_func ?_ | refine r_field rfl ?_ | refine wp_if_true rfl ?_ | refine wp_if_false rfl ?_ | refine wp_if_yes rfl (by omega) ?_ | refine wp_if_no rfl (by omega) ?_ | refine wp_cond_true rfl ?_ | refine wp_cond_false rfl ?_ | refine wp_cond_yes rfl (by omega) ?_ | refine wp_cond_no rfl (by omega) ?_ | refine r_guard_yes rfl rfl (by omega) ?_ | refine r_guard_no rfl rfl (by omega) ?_ | refine r_nilCheck rfl ?_)
  refine r_box (cs := [.bool (tst (z < 0)), m]) (by conv => (lhs; whnf)) rfl ?_
  intro w_1 g1 k_1 hg1 hs_1
  have hsg1 : w.heap.size ≤ g1 := Nat.le_trans k.size hs_1
  clear hs_1
  replace hS := hS.to k_1
  replace hm := hm.to k_1
  replace k := k.trans k_1
  clear k_1
  repeat (first | refine wp_seq_region ?_ | refine wp_seq_seq ?_ | refine wp_seq_bregion ?_ | refine wp_seq_bseq ?_ | refine wp_seq_skip ?_ | refine wp_region ?_ | refine r_move (by conv => (lhs; whnf)) ?_ | refine r_assign (by conv => (lhs; whnf)) ?_ | refine r_nil ?_ | refine q_then ?_ | refine wp_block_region ?_ | refine wp_block_seq ?_ | refine wp_block_cond ?_ | refine wp_block_block ?_ | refine wp_block_skip ?_ | refine wp_ret ?_ | refine q_then_ret ?_ | refine q_block_ret ?_ | refine wp_skip ?_ | refine wp_exit ?_ | refine q_then_exit ?_ | refine q_block ?_ | refine q_block_hit rfl ?_ | refine q_block_miss rfl ?_ | refine r_extract rfl rfl ?_ | refine r_len_sl rfl ?_ | refine r_len (by conv => (lhs; whnf)) (by assumption) ?_ | refine r_len_str rfl ?_ | refine r_guard_run rfl rfl ?_ | refine r_guard_skip rfl rfl rfl ?_ | refine r_guard_undef rfl rfl ?_ | refine r_pick_true rfl (by conv => (lhs; whnf)) ?_ | refine r_pick_false rfl (by conv => (lhs; whnf)) ?_ | refine r_lss rfl rfl ?_ | refine r_eql rfl rfl ?_ | refine r_neq rfl rfl ?_ | refine r_gtr rfl rfl ?_ | refine r_geq rfl rfl ?_ | refine r_leq rfl rfl ?_ | refine r_addI rfl rfl (by omega) (by omega) ?_ | refine r_subI rfl rfl (by omega) (by omega) ?_ | refine r_index_sl rfl rfl (by omega) (by omega) ?_ | refine r_index (by conv => (lhs; whnf)) rfl (by assumption) (by omega) (by omega) ?_ | refine r_conv rfl (wrap_i64 (by omega) (by omega)) ?_ | refine r_conv rfl (wrap_u64 (by omega) (by omega)) ?_ | refine r_conv rfl (wrap_u32 (by omega) (by omega)) ?_ | refine r_remP rfl rfl (by omega) (by omega) ?_ | refine r_quoU rfl rfl (by omega) (by omega) (by omega) ?_ | refine r_quoI rfl rfl (by omega) (by omega) (by omega) ?_ | refine r_max rfl rfl ?_ | refine r_min rfl rfl ?_ | refine r_notB rfl ?_ | refine r_not rfl ?_ | refine r_eqlB rfl rfl ?_ | refine r_neqB rfl rfl ?_ | refine r_func ?_ | refine r_field rfl ?_ | refine wp_if_true rfl ?_ | refine wp_if_false rfl ?_ | refine wp_if_yes rfl (by omega) ?_ | refine wp_if_no rfl (by omega) ?_ | refine wp_cond_true rfl ?_ | refine wp_cond_false rfl ?_ | refine wp_cond_yes rfl (by omega) ?_ | refine wp_cond_no rfl (by omega) ?_ | refine r_guard_yes rfl rfl (by omega) ?_ | refine r_guard_no rfl rfl (by omega) ?_ | refine r_nilCheck rfl ?_)
  refine r_alloc (cs := [.bool false, .slice none 0 0, .slice none 0 0]) rfl ?_
  intro w_2 g k_2 hg hs_2
  have hsg : w.heap.size ≤ g := Nat.le_trans k.size hs_2
  have ne_g1_g : g1 ≠ g := fun e => by have := hg1.lt; omega
  clear hs_2
  replace hS := hS.to k_2
  replace hm := hm.to k_2
  replace hg1 := hg1.to k_2
  replace k := k.trans k_2
  clear k_2
  repeat (first | refine r_load_all rfl hg1 rfl ?_ | refine wp_seq_region ?_ | refine wp_seq_seq ?_ | refine wp_seq_bregion ?_ | refine wp_seq_bseq ?_ | refine wp_seq_skip ?_ | refine wp_region ?_ | refine r_move (by conv => (lhs; whnf)) ?_ | refine r_assign (by conv => (lhs; whnf)) ?_ | refine r_nil ?_ | refine q_then ?_ | refine wp_block_region ?_ | refine wp_block_seq ?_ | refine wp_block_cond ?_ | refine wp_block_block ?_ | refine wp_block_skip ?_ | refine wp_ret ?_ | refine q_then_ret ?_ | refine q_block_ret ?_ | refine wp_skip ?_ | refine wp_exit ?_ | refine q_then_exit ?_ | refine q_block ?_ | refine q_block_hit rfl ?_ | refine q_block_miss rfl ?_ | refine r_extract rfl rfl ?_ | refine r_len_sl rfl ?_ | refine r_len (by conv => (lhs; whnf)) (by assumption) ?_ | refine r_len_str rfl ?_ | refine r_guard_run rfl rfl ?_ | refine r_guard_skip rfl rfl rfl ?_ | refine r_guard_undef rfl rfl ?_ | refine r_pick_true rfl (by conv => (lhs; whnf)) ?_ | refine r_pick_false rfl (by conv => (lhs; whnf)) ?_ | refine r_lss rfl rfl ?_ | refine r_eql rfl rfl ?_ | refine r_neq rfl rfl ?_ | refine r_gtr rfl rfl ?_ | refine r_geq rfl rfl ?_ | refine r_leq rfl rfl ?_ | refine r_addI rfl rfl (by omega) (by omega) ?_ | refine r_subI rfl rfl (by omega) (by omega) ?_ | refine r_index_sl rfl rfl (by omega) (by omega) ?_ | refine r_index (by conv => (lhs; whnf)) rfl (by assumption) (by omega) (by omega) ?_ | refine r_conv rfl (wrap_i64 (by omega) (by omega)) ?_ | refine r_conv rfl (wrap_u64 (by omega) (by omega)) ?_ | refine r_conv rfl (wrap_u32 (by omega) (by omega)) ?_ | refine r_remP rfl rfl (by omega) (by omega) ?_ | refine r_quoU rfl rfl (by omega) (by omega) (by omega) ?_ | refine r_quoI rfl rfl (by omega) (by omega) (by omega) ?_ | refine r_max rfl rfl ?_ | refine r_min rfl rfl ?_ | refine r_notB rfl ?_ | refine r_not rfl ?_ | refine r_eqlB rfl rfl ?_ | refine r_neqB rfl rfl ?_ | refine r_func ?_ | refine r_field rfl ?_ | refine wp_if_true rfl ?_ | refine wp_if_false rfl ?_ | refine wp_if_yes rfl (by omega) ?_ | refine wp_if_no rfl (by omega) ?_ | refine wp_cond_true rfl ?_ | refine wp_cond_false rfl ?_ | refine wp_cond_yes rfl (by omega) ?_ | refine wp_cond_no rfl (by omega) ?_ | refine r_guard_yes rfl rfl (by omega) ?_ | refine r_guard_no rfl rfl (by omega) ?_ | refine r_nilCheck rfl ?_)
  refine r_build2of3 (by conv => (lhs; whnf)) ?_
  refine r_store3 rfl (by conv => (lhs; whnf)) hg rfl rfl hm.one rfl ?_
  intro w_3 k_3 h_3
  replace hS := hS.to k_3
  replace hm := hm.wrT k_3 hg (by decide)
  replace hg1 := hg1.wr k_3 (by omega)
  replace k : Ext w w_3 := k.past k_3 hsg
  replace hg := h_3
  clear h_3 k_3
  repeat (first | refine wp_seq_region ?_ | refine wp_seq_seq ?_ | refine wp_seq_bregion ?_ | refine wp_seq_bseq ?_ | refine wp_seq_skip ?_ | refine wp_region ?_ | refine r_move (by conv => (lhs; whnf)) ?_ | refine r_assign (by conv => (lhs; whnf)) ?_ | refine r_nil ?_ | refine q_then ?_ | refine wp_block_region ?_ | refine wp_block_seq ?_ | refine wp_block_cond ?_ | refine wp_block_block ?_ | refine wp_block_skip ?_ | refine wp_ret ?_ | refine q_then_ret ?_ | refine q_block_ret ?_ | refine wp_skip ?_ | refine wp_exit ?_ | refine q_then_exit ?_ | refine q_block ?_ | refine q_block_hit rfl ?_ | refine q_block_miss rfl ?_ | refine r_extract rfl rfl ?_ | refine r_len_sl rfl ?_ | refine r_len (by conv => (lhs; whnf)) (by assumption) ?_ | refine r_len_str rfl ?_ | refine r_guard_run rfl rfl ?_ | refine r_guard_skip rfl rfl rfl ?_ | refine r_guard_undef rfl rfl ?_ | refine r_pick_true rfl (by conv => (lhs; whnf)) ?_ | refine r_pick_false rfl (by conv => (lhs; whnf)) ?_ | refine r_lss rfl rfl ?_ | refine r_eql rfl rfl ?_ | refine r_neq rfl rfl ?_ | refine r_gtr rfl rfl ?_ | refine r_geq rfl rfl ?_ | refine r_leq rfl rfl ?_ | refine r_addI rfl rfl (by omega) (by omega) ?_ | refine r_subI rfl rfl (by omega) (by omega) ?_ | refine r_index_sl rfl rfl (by omega) (by omega) ?_ | refine r_index (by conv => (lhs; whnf)) rfl (by assumption) (by omega) (by omega) ?_ | refine r_conv rfl (wrap_i64 (by omega) (by omega)) ?_ | refine r_conv rfl (wrap_u64 (by omega) (by omega)) ?_ | refine r_conv rfl (wrap_u32 (by omega) (by omega)) ?_ | refine r_remP rfl rfl (by omega) (by omega) ?_ | refine r_quoU rfl rfl (by omega) (by omega) (by omega) ?_ | refine r_quoI rfl rfl (by omega) (by omega) (by omega) ?_ | refine r_max rfl rfl ?_ | refine r_min rfl rfl ?_ | refine r_notB rfl ?_ | refine r_not rfl ?_ | refine r_eqlB rfl rfl ?_ | refine r_neqB rfl rfl ?_ | refine r_func ?_ | refine r_field rfl ?_ | refine wp_if_true rfl ?_ | refine wp_if_false rfl ?_ | refine wp_if_yes rfl (by omega) ?_ | refine wp_if_no rfl (by omega) ?_ | refine wp_cond_true rfl ?_ | refine wp_cond_false rfl ?_ | refine wp_cond_yes rfl (by omega) ?_ | refine wp_cond_no rfl (by omega) ?_ | refine r_guard_yes rfl rfl (by omega) ?_ | refine r_guard_no rfl rfl (by omega) ?_ | refine r_nilCheck rfl ?_)
  exact end1 rfl (resV_agg (by conv => (lhs; whnf)) hg rfl) ⟨k, m, _, rfl, hm, by rw [bot_int]; exact .nil⟩
theorem two_lt (e N P : Nat) (hN : P = 2 ^ N) : 2 ^ e < P ↔ e < N := hN ▸ Nat.pow_lt_pow_iff_right (by decide)
theorem two_lt_big (e : Nat) : 2 ^ e < Big ↔ e < 100000 := @two_lt e 100000 Big big_def
theorem zl_two' (n P : Nat) (hP : P = 2 ^ n) : zl (P : Int) ≤ n + 1 := by
  unfold zl
  rw [Int.natAbs_natCast, hP]
  refine dl_le (Nat.lt_of_le_of_lt (Nat.pow_le_pow_left (by decide : 2 ≤ 1000000000) n) ?_)
  exact Nat.pow_lt_pow_right (by decide) (by omega)
/-- What the powers give: 2^n, or the error. -/
def DblR (S : Nat → Prop) (w : World) (v : Value) (n P : Nat) : Prop :=
  ∃ e x m, v = .tuple #[.agg #[.bool (tst ((x : Int) < 0)), m], .int .i64 e] ∧ ((n < 100000 ∧ e = 0 ∧ x = (P : Int)) ∨ (100000 ≤ n ∧ e = 11 ∧ x = 0)) ∧ NatV S 127 .u32 w m x.natAbs
set_option maxHeartbeats 1000000 in
theorem dbl_c {S : Nat → Prop} (n : Nat) : ∀ {w : World} (P : Nat) (I : Int), n ≤ 100001 → P = 2 ^ n → I = (n : Int) → Up S w →
    Gives Tryz.prog 51 [.int .i64 I] w fun v' w' => Ext w w' ∧ DblR S w' v' n P := by
  induction n using Nat.strongRecOn with
  | _ n ih =>
  intro w P I hn hP hI hS
  subst hI
  refine gives_of Tryz.func51 rfl rfl rfl ?_
  have k : Ext w w := .refl
  repeat (first | refine wp_seq_region ?_ | refine wp_seq_seq ?_ | refine wp_seq_bregion ?_ | refine wp_seq_bseq ?_ | refine wp_seq_skip ?_ | refine wp_region ?_ | refine r_move (by conv => (lhs; whnf)) ?_ | refine r_assign (by conv => (lhs; whnf)) ?_ | refine r_nil ?_ | refine q_then ?_ | refine wp_block_region ?_ | refine wp_block_seq ?_ | refine wp_block_cond ?_ | refine wp_block_block ?_ | refine wp_block_skip ?_ | refine wp_ret ?_ | refine q_then_ret ?_ | refine q_block_ret ?_ | refine wp_skip ?_ | refine wp_exit ?_ | refine q_then_exit ?_ | refine q_block ?_ | refine q_block_hit rfl ?_ | refine q_block_miss rfl ?_ | refine r_extract rfl rfl ?_ | refine r_len_sl rfl ?_ | refine r_len (by conv => (lhs; whnf)) (by assumption) ?_ | refine r_len_str rfl ?_ | refine r_guard_run rfl rfl ?_ | refine r_guard_skip rfl rfl rfl ?_ | refine r_guard_undef rfl rfl ?_ | refine r_pick_true rfl (by conv => (lhs; whnf)) ?_ | refine r_pick_false rfl (by conv => (lhs; whnf)) ?_ | refine r_lss rfl rfl ?_ | refine r_eql rfl rfl ?_ | refine r_neq rfl rfl ?_ | refine r_gtr rfl rfl ?_ | refine r_geq rfl rfl ?_ | refine r_leq rfl rfl ?_ | refine r_addI rfl rfl (by omega) (by omega) ?_ | refine r_subI rfl rfl (by omega) (by omega) ?_ | refine r_index_sl rfl rfl (by omega) (by omega) ?_ | refine r_index (by conv => (lhs; whnf)) rfl (by assumption) (by omega) (by omega) ?_ | refine r_conv rfl (wrap_i64 (by omega) (by omega)) ?_ | refine r_conv rfl (wrap_u64 (by omega) (by omega)) ?_ | refine r_conv rfl (wrap_u32 (by omega) (by omega)) ?_ | refine r_remP rfl rfl (by omega) (by omega) ?_ | refine r_quoU rfl rfl (by omega) (by omega) (by omega) ?_ | refine r_quoI rfl rfl (by omega) (by omega) (by omega) ?_ | refine r_max rfl rfl ?_ | refine r_min rfl rfl ?_ | refine r_notB rfl ?_ | refine r_not rfl ?_ | refine r_eqlB rfl rfl ?_ | refine r_neqB rfl rfl ?_ | refine r_func ?_ | refine r_field rfl ?_ | refine wp_if_true rfl ?_ | refine wp_if_false rfl ?_ | refine wp_if_yes rfl (by omega) ?_ | refine wp_if_no rfl (by omega) ?_ | refine wp_cond_true rfl ?_ | refine wp_cond_false rfl ?_ | refine wp_cond_yes rfl (by omega) ?_ | refine wp_cond_no rfl (by omega) ?_ | refine r_guard_yes rfl rfl (by omega) ?_ | refine r_guard_no rfl rfl (by omega) ?_ | refine r_nilCheck rfl ?_)
  refine r_alloc (cs := [.bool false, .slice none 0 0]) rfl ?_
  intro w_1 g k_1 hg hs_1
  have hsg : w.heap.size ≤ g := Nat.le_trans k.size hs_1
  clear hs_1
  replace hS := hS.to k_1
  replace k := k.trans k_1
  clear k_1
  repeat (first | refine wp_seq_region ?_ | refine wp_seq_seq ?_ | refine wp_seq_bregion ?_ | refine wp_seq_bseq ?_ | refine wp_seq_skip ?_ | refine wp_region ?_ | refine r_move (by conv => (lhs; whnf)) ?_ | refine r_assign (by conv => (lhs; whnf)) ?_ | refine r_nil ?_ | refine q_then ?_ | refine wp_block_region ?_ | refine wp_block_seq ?_ | refine wp_block_cond ?_ | refine wp_block_block ?_ | refine wp_block_skip ?_ | refine wp_ret ?_ | refine q_then_ret ?_ | refine q_block_ret ?_ | refine wp_skip ?_ | refine wp_exit ?_ | refine q_then_exit ?_ | refine q_block ?_ | refine q_block_hit rfl ?_ | refine q_block_miss rfl ?_ | refine r_extract rfl rfl ?_ | refine r_len_sl rfl ?_ | refine r_len (by conv => (lhs; whnf)) (by assumption) ?_ | refine r_len_str rfl ?_ | refine r_guard_run rfl rfl ?_ | refine r_guard_skip rfl rfl rfl ?_ | refine r_guard_undef rfl rfl ?_ | refine r_pick_true rfl (by conv => (lhs; whnf)) ?_ | refine r_pick_false rfl (by conv => (lhs; whnf)) ?_ | refine r_lss rfl rfl ?_ | refine r_eql rfl rfl ?_ | refine r_neq rfl rfl ?_ | refine r_gtr rfl rfl ?_ | refine r_geq rfl rfl ?_ | refine r_leq rfl rfl ?_ | refine r_addI rfl rfl (by omega) (by omega) ?_ | refine r_subI rfl rfl (by omega) (by omega) ?_ | refine r_index_sl rfl rfl (by omega) (by omega) ?_ | refine r_index (by conv => (lhs; whnf)) rfl (by assumption) (by omega) (by omega) ?_ | refine r_conv rfl (wrap_i64 (by omega) (by omega)) ?_ | refine r_conv rfl (wrap_u64 (by omega) (by omega)) ?_ | refine r_conv rfl (wrap_u32 (by omega) (by omega)) ?_ | refine r_remP rfl rfl (by omega) (by omega) ?_ | refine r_quoU rfl rfl (by omega) (by omega) (by omega) ?_ | refine r_quoI rfl rfl (by omega) (by omega) (by omega) ?_ | refine r_max rfl rfl ?_ | refine r_min rfl rfl ?_ | refine r_notB rfl ?_ | refine r_not rfl ?_ | refine r_eqlB rfl rfl ?_ | refine r_neqB rfl rfl ?_ | refine r_func ?_ | refine r_field rfl ?_ | refine wp_if_true rfl ?_ | refine wp_if_false rfl ?_ | refine wp_if_yes rfl (by omega) ?_ | refine wp_if_no rfl (by omega) ?_ | refine wp_cond_true rfl ?_ | refine wp_cond_false rfl ?_ | refine wp_cond_yes rfl (by omega) ?_ | refine wp_cond_no rfl (by omega) ?_ | refine r_guard_yes rfl rfl (by omega) ?_ | refine r_guard_no rfl rfl (by omega) ?_ | refine r_nilCheck rfl ?_)
  try refine wp_seq_cond ?_
  refine wp_cond_dec rfl ?_ ?_ <;> intro h60
  · have hp : 2 ^ n ≤ 2 ^ 59 := Nat.pow_le_pow_right (by decide) (by omega)
    have hp2 : P ≤ 576460752303423488 := by rw [hP]; exact hp
    have hpi : (1 : Int) * 2 ^ n = (P : Int) := by rw [hP]; simp
    repeat (first | refine r_shl (c := (P : Int)) n rfl rfl rfl (by omega) (by rw [hpi]; exact wrap_i64 (by omega) (by omega)) ?_ | refine wp_seq_region ?_ | refine wp_seq_seq ?_ | refine wp_seq_bregion ?_ | refine wp_seq_bseq ?_ | refine wp_seq_skip ?_ | refine wp_region ?_ | refine r_move (by conv => (lhs; whnf)) ?_ | refine r_assign (by conv => (lhs; whnf)) ?_ | refine r_nil ?_ | refine q_then ?_ | refine wp_block_region ?_ | refine wp_block_seq ?_ | refine wp_block_cond ?_ | refine wp_block_block ?_ | refine wp_block_skip ?_ | refine wp_ret ?_ | refine q_then_ret ?_ | refine q_block_ret ?_ | refine wp_skip ?_ | refine wp_exit ?_ | refine q_then_exit ?_ | refine q_block ?_ | refine q_block_hit rfl ?_ | refine q_block_miss rfl ?_ | refine r_extract rfl rfl ?_ | refine r_len_sl rfl ?_ | refine r_len (by conv => (lhs; whnf)) (by assumption) ?_ | refine r_len_str rfl ?_ | refine r_guard_run rfl rfl ?_ | refine r_guard_skip rfl rfl rfl ?_ | refine r_guard_undef rfl rfl ?_ | refine r_pick_true rfl (by conv => (lhs; whnf)) ?_ | refine r_pick_false rfl (by conv => (lhs; whnf)) ?_ | refine r_lss rfl rfl ?_ | refine r_eql rfl rfl ?_ | refine r_neq rfl rfl ?_ | refine r_gtr rfl rfl ?_ | refine r_geq rfl rfl ?_ | refine r_leq rfl rfl ?_ | refine r_addI rfl rfl (by omega) (by omega) ?_ | refine r_subI rfl rfl (by omega) (by omega) ?_ | refine r_index_sl rfl rfl (by omega) (by omega) ?_ | refine r_index (by conv => (lhs; whnf)) rfl (by assumption) (by omega) (by omega) ?_ | refine r_conv rfl (wrap_i64 (by omega) (by omega)) ?_ | refine r_conv rfl (wrap_u64 (by omega) (by omega)) ?_ | refine r_conv rfl (wrap_u32 (by omega) (by omega)) ?_ | refine r_remP rfl rfl (by omega) (by omega) ?_ | refine r_quoU rfl rfl (by omega) (by omega) (by omega) ?_ | refine r_quoI rfl rfl (by omega) (by omega) (by omega) ?_ | refine r_max rfl rfl ?_ | refine r_min rfl rfl ?_ | refine r_notB rfl ?_ | refine r_not rfl ?_ | refine r_eqlB rfl rfl ?_ | refine r_neqB rfl rfl ?_ | refine r_func ?_ | refine r_field rfl ?_ | refine wp_if_true rfl ?_ | refine wp_if_false rfl ?_ | refine wp_if_yes rfl (by omega) ?_ | refine wp_if_no rfl (by omega) ?_ | refine wp_cond_true rfl ?_ | refine wp_cond_false rfl ?_ | refine wp_cond_yes rfl (by omega) ?_ | refine wp_cond_no rfl (by omega) ?_ | refine r_guard_yes rfl rfl (by omega) ?_ | refine r_guard_no rfl rfl (by omega) ?_ | refine r_nilCheck rfl ?_)
    refine r_call (whole_c (z := (P : Int)) hS (by omega) (by omega)) rfl ?_
    rintro v_2 w_2 ⟨k_2, m, rfl, h1⟩
    replace hS := hS.to k_2
    replace hg := hg.to k_2
    replace k := k.trans k_2
    clear k_2
    repeat (first | refine wp_seq_region ?_ | refine wp_seq_seq ?_ | refine wp_seq_bregion ?_ | refine wp_seq_bseq ?_ | refine wp_seq_skip ?_ | refine wp_region ?_ | refine r_move (by conv => (lhs; whnf)) ?_ | refine r_assign (by conv => (lhs; whnf)) ?_ | refine r_nil ?_ | refine q_then ?_ | refine wp_block_region ?_ | refine wp_block_seq ?_ | refine wp_block_cond ?_ | refine wp_block_block ?_ | refine wp_block_skip ?_ | refine wp_ret ?_ | refine q_then_ret ?_ | refine q_block_ret ?_ | refine wp_skip ?_ | refine wp_exit ?_ | refine q_then_exit ?_ | refine q_block ?_ | refine q_block_hit rfl ?_ | refine q_block_miss rfl ?_ | refine r_extract rfl rfl ?_ | refine r_len_sl rfl ?_ | refine r_len (by conv => (lhs; whnf)) (by assumption) ?_ | refine r_len_str rfl ?_ | refine r_guard_run rfl rfl ?_ | refine r_guard_skip rfl rfl rfl ?_ | refine r_guard_undef rfl rfl ?_ | refine r_pick_true rfl (by conv => (lhs; whnf)) ?_ | refine r_pick_false rfl (by conv => (lhs; whnf)) ?_ | refine r_lss rfl rfl ?_ | refine r_eql rfl rfl ?_ | refine r_neq rfl rfl ?_ | refine r_gtr rfl rfl ?_ | refine r_geq rfl rfl ?_ | refine r_leq rfl rfl ?_ | refine r_addI rfl rfl (by omega) (by omega) ?_ | refine r_subI rfl rfl (by omega) (by omega) ?_ | refine r_index_sl rfl rfl (by omega) (by omega) ?_ | refine r_index (by conv => (lhs; whnf)) rfl (by assumption) (by omega) (by omega) ?_ | refine r_conv rfl (wrap_i64 (by omega) (by omega)) ?_ | refine r_conv rfl (wrap_u64 (by omega) (by omega)) ?_ | refine r_conv rfl (wrap_u32 (by omega) (by omega)) ?_ | refine r_remP rfl rfl (by omega) (by omega) ?_ | refine r_quoU rfl rfl (by omega) (by omega) (by omega) ?_ | refine r_quoI rfl rfl (by omega) (by omega) (by omega) ?_ | refine r_max rfl rfl ?_ | refine r_min rfl rfl ?_ | refine r_notB rfl ?_ | refine r_not rfl ?_ | refine r_eqlB rfl rfl ?_ | refine r_neqB rfl rfl ?_ | refine r_func ?_ | refine r_field rfl ?_ | refine wp_if_true rfl ?_ | refine wp_if_false rfl ?_ | refine wp_if_yes rfl (by omega) ?_ | refine wp_if_no rfl (by omega) ?_ | refine wp_cond_true rfl ?_ | refine wp_cond_false rfl ?_ | refine wp_cond_yes rfl (by omega) ?_ | refine wp_cond_no rfl (by omega) ?_ | refine r_guard_yes rfl rfl (by omega) ?_ | refine r_guard_no rfl rfl (by omega) ?_ | refine r_nilCheck rfl ?_)
    refine r_store2 rfl rfl hg rfl h1.one ?_
    intro w_3 k_3 h_3
    replace hS := hS.to k_3
    replace h1 := h1.wrT k_3 hg (by decide)
    replace k : Ext w w_3 := k.past k_3 hsg
    replace hg := h_3
    clear h_3 k_3
    repeat (first | refine wp_seq_region ?_ | refine wp_seq_seq ?_ | refine wp_seq_bregion ?_ | refine wp_seq_bseq ?_ | refine wp_seq_skip ?_ | refine wp_region ?_ | refine r_move (by conv => (lhs; whnf)) ?_ | refine r_assign (by conv => (lhs; whnf)) ?_ | refine r_nil ?_ | refine q_then ?_ | refine wp_block_region ?_ | refine wp_block_seq ?_ | refine wp_block_cond ?_ | refine wp_block_block ?_ | refine wp_block_skip ?_ | refine wp_ret ?_ | refine q_then_ret ?_ | refine q_block_ret ?_ | refine wp_skip ?_ | refine wp_exit ?_ | refine q_then_exit ?_ | refine q_block ?_ | refine q_block_hit rfl ?_ | refine q_block_miss rfl ?_ | refine r_extract rfl rfl ?_ | refine r_len_sl rfl ?_ | refine r_len (by conv => (lhs; whnf)) (by assumption) ?_ | refine r_len_str rfl ?_ | refine r_guard_run rfl rfl ?_ | refine r_guard_skip rfl rfl rfl ?_ | refine r_guard_undef rfl rfl ?_ | refine r_pick_true rfl (by conv => (lhs; whnf)) ?_ | refine r_pick_false rfl (by conv => (lhs; whnf)) ?_ | refine r_lss rfl rfl ?_ | refine r_eql rfl rfl ?_ | refine r_neq rfl rfl ?_ | refine r_gtr rfl rfl ?_ | refine r_geq rfl rfl ?_ | refine r_leq rfl rfl ?_ | refine r_addI rfl rfl (by omega) (by omega) ?_ | refine r_subI rfl rfl (by omega) (by omega) ?_ | refine r_index_sl rfl rfl (by omega) (by omega) ?_ | refine r_index (by conv => (lhs; whnf)) rfl (by assumption) (by omega) (by omega) ?_ | refine r_conv rfl (wrap_i64 (by omega) (by omega)) ?_ | refine r_conv rfl (wrap_u64 (by omega) (by omega)) ?_ | refine r_conv rfl (wrap_u32 (by omega) (by omega)) ?_ | refine r_remP rfl rfl (by omega) (by omega) ?_ | refine r_quoU rfl rfl (by omega) (by omega) (by omega) ?_ | refine r_quoI rfl rfl (by omega) (by omega) (by omega) ?_ | refine r_max rfl rfl ?_ | refine r_min rfl rfl ?_ | refine r_notB rfl ?_ | refine r_not rfl ?_ | refine r_eqlB rfl rfl ?_ | refine r_neqB rfl rfl ?_ | refine r_func ?_ | refine r_field rfl ?_ | refine wp_if_true rfl ?_ | refine wp_if_false rfl ?_ | refine wp_if_yes rfl (by omega) ?_ | refine wp_if_no rfl (by omega) ?_ | refine wp_cond_true rfl ?_ | refine wp_cond_false rfl ?_ | refine wp_cond_yes rfl (by omega) ?_ | refine wp_cond_no rfl (by omega) ?_ | refine r_guard_yes rfl rfl (by omega) ?_ | refine r_guard_no rfl rfl (by omega) ?_ | refine r_nilCheck rfl ?_)
    exact end2 rfl (resV_agg (by conv => (lhs; whnf)) hg rfl) (resV_tmp (by conv => (lhs; whnf))) ⟨k, 0, _, m, rfl, .inl ⟨by omega, rfl, rfl⟩, h1⟩
  · obtain ⟨H, hH⟩ : ∃ H, H = 2 ^ (n / 2) := ⟨_, rfl⟩
    have hz1 := zl_two' (n / 2) H hH
    have hHH : P = if n % 2 = 1 then H * H + H * H else H * H := by
      rw [hP, hH]
      conv => lhs; rw [← Nat.div_add_mod n 2, Nat.pow_add, Nat.pow_mul, show 2 ^ 2 = 2 * 2 from rfl, Nat.mul_pow]
      split
      · rename_i h; rw [h]; omega
      · rename_i h; rw [show n % 2 = 0 by omega]; simp
    have hfit : H * H < Big ↔ n / 2 < 50000 := by
      rw [hH, ← Nat.pow_add, two_lt_big]
      omega
    have hfit2 : P < Big ↔ n < 100000 := by rw [hP, two_lt_big]
    have hm := zl_mul (H : Int) H
    repeat (first | refine wp_seq_region ?_ | refine wp_seq_seq ?_ | refine wp_seq_bregion ?_ | refine wp_seq_bseq ?_ | refine wp_seq_skip ?_ | refine wp_region ?_ | refine r_move (by conv => (lhs; whnf)) ?_ | refine r_assign (by conv => (lhs; whnf)) ?_ | refine r_nil ?_ | refine q_then ?_ | refine wp_block_region ?_ | refine wp_block_seq ?_ | refine wp_block_cond ?_ | refine wp_block_block ?_ | refine wp_block_skip ?_ | refine wp_ret ?_ | refine q_then_ret ?_ | refine q_block_ret ?_ | refine wp_skip ?_ | refine wp_exit ?_ | refine q_then_exit ?_ | refine q_block ?_ | refine q_block_hit rfl ?_ | refine q_block_miss rfl ?_ | refine r_extract rfl rfl ?_ | refine r_len_sl rfl ?_ | refine r_len (by conv => (lhs; whnf)) (by assumption) ?_ | refine r_len_str rfl ?_ | refine r_guard_run rfl rfl ?_ | refine r_guard_skip rfl rfl rfl ?_ | refine r_guard_undef rfl rfl ?_ | refine r_pick_true rfl (by conv => (lhs; whnf)) ?_ | refine r_pick_false rfl (by conv => (lhs; whnf)) ?_ | refine r_lss rfl rfl ?_ | refine r_eql rfl rfl ?_ | refine r_neq rfl rfl ?_ | refine r_gtr rfl rfl ?_ | refine r_geq rfl rfl ?_ | refine r_leq rfl rfl ?_ | refine r_addI rfl rfl (by omega) (by omega) ?_ | refine r_subI rfl rfl (by omega) (by omega) ?_ | refine r_index_sl rfl rfl (by omega) (by omega) ?_ | refine r_index (by conv => (lhs; whnf)) rfl (by assumption) (by omega) (by omega) ?_ | refine r_conv rfl (wrap_i64 (by omega) (by omega)) ?_ | refine r_conv rfl (wrap_u64 (by omega) (by omega)) ?_ | refine r_conv rfl (wrap_u32 (by omega) (by omega)) ?_ | refine r_remP rfl rfl (by omega) (by omega) ?_ | refine r_quoU rfl rfl (by omega) (by omega) (by omega) ?_ | refine r_quoI rfl rfl (by omega) (by omega) (by omega) ?_ | refine r_max rfl rfl ?_ | refine r_min rfl rfl ?_ | refine r_notB rfl ?_ | refine r_not rfl ?_ | refine r_eqlB rfl rfl ?_ | refine r_neqB rfl rfl ?_ | refine r_func ?_ | refine r_field rfl ?_ | refine wp_if_true rfl ?_ | refine wp_if_false rfl ?_ | refine wp_if_yes rfl (by omega) ?_ | refine wp_if_no rfl (by omega) ?_ | refine wp_cond_true rfl ?_ | refine wp_cond_false rfl ?_ | refine wp_cond_yes rfl (by omega) ?_ | refine wp_cond_no rfl (by omega) ?_ | refine r_guard_yes rfl rfl (by omega) ?_ | refine r_guard_no rfl rfl (by omega) ?_ | refine r_nilCheck rfl ?_)
    refine r_call (ih (n / 2) (by omega) H _ (by omega) hH (by omega) hS) rfl ?_
    rintro v_2 w_2 ⟨k_2, e, x, mh, rfl, hor, h1⟩
    replace hS := hS.to k_2
    replace hg := hg.to k_2
    replace k := k.trans k_2
    clear k_2
    obtain ⟨_, rfl, rfl⟩ | ⟨h, _⟩ := hor
    · repeat (first | refine wp_seq_region ?_ | refine wp_seq_seq ?_ | refine wp_seq_bregion ?_ | refine wp_seq_bseq ?_ | refine wp_seq_skip ?_ | refine wp_region ?_ | refine r_move (by conv => (lhs; whnf)) ?_ | refine r_assign (by conv => (lhs; whnf)) ?_ | refine r_nil ?_ | refine q_then ?_ | refine wp_block_region ?_ | refine wp_block_seq ?_ | refine wp_block_cond ?_ | refine wp_block_block ?_ | refine wp_block_skip ?_ | refine wp_ret ?_ | refine q_then_ret ?_ | refine q_block_ret ?_ | refine wp_skip ?_ | refine wp_exit ?_ | refine q_then_exit ?_ | refine q_block ?_ | refine q_block_hit rfl ?_ | refine q_block_miss rfl ?_ | refine r_extract rfl rfl ?_ | refine r_len_sl rfl ?_ | refine r_len (by conv => (lhs; whnf)) (by assumption) ?_ | refine r_len_str rfl ?_ | refine r_guard_run rfl rfl ?_ | refine r_guard_skip rfl rfl rfl ?_ | refine r_guard_undef rfl rfl ?_ | refine r_pick_true rfl (by conv => (lhs; whnf)) ?_ | refine r_pick_false rfl (by conv => (lhs; whnf)) ?_ | refine r_lss rfl rfl ?_ | refine r_eql rfl rfl ?_ | refine r_neq rfl rfl ?_ | refine r_gtr rfl rfl ?_ | refine r_geq rfl rfl ?_ | refine r_leq rfl rfl ?_ | refine r_addI rfl rfl (by omega) (by omega) ?_ | refine r_subI rfl rfl (by omega) (by omega) ?_ | refine r_index_sl rfl rfl (by omega) (by omega) ?_ | refine r_index (by conv => (lhs; whnf)) rfl (by assumption) (by omega) (by omega) ?_ | refine r_conv rfl (wrap_i64 (by omega) (by omega)) ?_ | refine r_conv rfl (wrap_u64 (by omega) (by omega)) ?_ | refine r_conv rfl (wrap_u32 (by omega) (by omega)) ?_ | refine r_remP rfl rfl (by omega) (by omega) ?_ | refine r_quoU rfl rfl (by omega) (by omega) (by omega) ?_ | refine r_quoI rfl rfl (by omega) (by omega) (by omega) ?_ | refine r_max rfl rfl ?_ | refine r_min rfl rfl ?_ | refine r_notB rfl ?_ | refine r_not rfl ?_ | refine r_eqlB rfl rfl ?_ | refine r_neqB rfl rfl ?_ | refine r_func ?_ | refine r_field rfl ?_ | refine wp_if_true rfl ?_ | refine wp_if_false rfl ?_ | refine wp_if_yes rfl (by omega) ?_ | refine wp_if_no rfl (by omega) ?_ | refine wp_cond_true rfl ?_ | refine wp_cond_false rfl ?_ | refine wp_cond_yes rfl (by omega) ?_ | refine wp_cond_no rfl (by omega) ?_ | refine r_guard_yes rfl rfl (by omega) ?_ | refine r_guard_no rfl rfl (by omega) ?_ | refine r_nilCheck rfl ?_)
      refine r_new (zs := [.bool false, .slice none 0 0]) (us := [.bool (tst ((H : Int) < 0)), mh]) rfl (fun _ => rfl) rfl rfl (ones2 rfl h1.one) ?_
      intro w_3 gh k_3 hs_3 hgh
      have hsgh : w.heap.size ≤ gh := Nat.le_trans k.size hs_3
      have ne_g_gh : g ≠ gh := fun e => by have := hg.lt; omega
      clear hs_3
      replace hS := hS.to k_3
      replace hg := hg.to k_3
      replace h1 := h1.to k_3
      replace k := k.trans k_3
      clear k_3
      repeat (first | refine r_load_all rfl hgh rfl ?_ | refine wp_seq_region ?_ | refine wp_seq_seq ?_ | refine wp_seq_bregion ?_ | refine wp_seq_bseq ?_ | refine wp_seq_skip ?_ | refine wp_region ?_ | refine r_move (by conv => (lhs; whnf)) ?_ | refine r_assign (by conv => (lhs; whnf)) ?_ | refine r_nil ?_ | refine q_then ?_ | refine wp_block_region ?_ | refine wp_block_seq ?_ | refine wp_block_cond ?_ | refine wp_block_block ?_ | refine wp_block_skip ?_ | refine wp_ret ?_ | refine q_then_ret ?_ | refine q_block_ret ?_ | refine wp_skip ?_ | refine wp_exit ?_ | refine q_then_exit ?_ | refine q_block ?_ | refine q_block_hit rfl ?_ | refine q_block_miss rfl ?_ | refine r_extract rfl rfl ?_ | refine r_len_sl rfl ?_ | refine r_len (by conv => (lhs; whnf)) (by assumption) ?_ | refine r_len_str rfl ?_ | refine r_guard_run rfl rfl ?_ | refine r_guard_skip rfl rfl rfl ?_ | refine r_guard_undef rfl rfl ?_ | refine r_pick_true rfl (by conv => (lhs; whnf)) ?_ | refine r_pick_false rfl (by conv => (lhs; whnf)) ?_ | refine r_lss rfl rfl ?_ | refine r_eql rfl rfl ?_ | refine r_neq rfl rfl ?_ | refine r_gtr rfl rfl ?_ | refine r_geq rfl rfl ?_ | refine r_leq rfl rfl ?_ | refine r_addI rfl rfl (by omega) (by omega) ?_ | refine r_subI rfl rfl (by omega) (by omega) ?_ | refine r_index_sl rfl rfl (by omega) (by omega) ?_ | refine r_index (by conv => (lhs; whnf)) rfl (by assumption) (by omega) (by omega) ?_ | refine r_conv rfl (wrap_i64 (by omega) (by omega)) ?_ | refine r_conv rfl (wrap_u64 (by omega) (by omega)) ?_ | refine r_conv rfl (wrap_u32 (by omega) (by omega)) ?_ | refine r_remP rfl rfl (by omega) (by omega) ?_ | refine r_quoU rfl rfl (by omega) (by omega) (by omega) ?_ | refine r_quoI rfl rfl (by omega) (by omega) (by omega) ?_ | refine r_max rfl rfl ?_ | refine r_min rfl rfl ?_ | refine r_notB rfl ?_ | refine r_not rfl ?_ | refine r_eqlB rfl rfl ?_ | refine r_neqB rfl rfl ?_ | refine r_func ?_ | refine r_field rfl ?_ | refine wp_if_true rfl ?_ | refine wp_if_false rfl ?_ | refine wp_if_yes rfl (by omega) ?_ | refine wp_if_no rfl (by omega) ?_ | refine wp_cond_true rfl ?_ | refine wp_cond_false rfl ?_ | refine wp_cond_yes rfl (by omega) ?_ | refine wp_cond_no rfl (by omega) ?_ | refine r_guard_yes rfl rfl (by omega) ?_ | refine r_guard_no rfl rfl (by omega) ?_ | refine r_nilCheck rfl ?_)
      refine r_call (imul_c (a := (H : Int)) (b := (H : Int)) hS ⟨mh, rfl, h1⟩ ⟨mh, rfl, h1⟩ (by omega) (by omega)) rfl ?_
      rintro v_4 w_4 ⟨k_4, r, e, rfl, hor⟩
      replace hS := hS.to k_4
      replace hg := hg.to k_4
      replace h1 := h1.to k_4
      replace hgh := hgh.to k_4
      replace k := k.trans k_4
      clear k_4
      have hnn : ((H : Int) * H).natAbs = H * H := by rw [Int.natAbs_mul, Int.natAbs_natCast]
      rcases hor with ⟨hf, rfl, mr, rfl, hr⟩ | ⟨hf, rfl, mr, rfl, hr⟩
      · have hlt : n / 2 < 50000 := hfit.1 (by rw [← hnn]; exact hf)
        repeat (first | refine wp_seq_region ?_ | refine wp_seq_seq ?_ | refine wp_seq_bregion ?_ | refine wp_seq_bseq ?_ | refine wp_seq_skip ?_ | refine wp_region ?_ | refine r_move (by conv => (lhs; whnf)) ?_ | refine r_assign (by conv => (lhs; whnf)) ?_ | refine r_nil ?_ | refine q_then ?_ | refine wp_block_region ?_ | refine wp_block_seq ?_ | refine wp_block_cond ?_ | refine wp_block_block ?_ | refine wp_block_skip ?_ | refine wp_ret ?_ | refine q_then_ret ?_ | refine q_block_ret ?_ | refine wp_skip ?_ | refine wp_exit ?_ | refine q_then_exit ?_ | refine q_block ?_ | refine q_block_hit rfl ?_ | refine q_block_miss rfl ?_ | refine r_extract rfl rfl ?_ | refine r_len_sl rfl ?_ | refine r_len (by conv => (lhs; whnf)) (by assumption) ?_ | refine r_len_str rfl ?_ | refine r_guard_run rfl rfl ?_ | refine r_guard_skip rfl rfl rfl ?_ | refine r_guard_undef rfl rfl ?_ | refine r_pick_true rfl (by conv => (lhs; whnf)) ?_ | refine r_pick_false rfl (by conv => (lhs; whnf)) ?_ | refine r_lss rfl rfl ?_ | refine r_eql rfl rfl ?_ | refine r_neq rfl rfl ?_ | refine r_gtr rfl rfl ?_ | refine r_geq rfl rfl ?_ | refine r_leq rfl rfl ?_ | refine r_addI rfl rfl (by omega) (by omega) ?_ | refine r_subI rfl rfl (by omega) (by omega) ?_ | refine r_index_sl rfl rfl (by omega) (by omega) ?_ | refine r_index (by conv => (lhs; whnf)) rfl (by assumption) (by omega) (by omega) ?_ | refine r_conv rfl (wrap_i64 (by omega) (by omega)) ?_ | refine r_conv rfl (wrap_u64 (by omega) (by omega)) ?_ | refine r_conv rfl (wrap_u32 (by omega) (by omega)) ?_ | refine r_remP rfl rfl (by omega) (by omega) ?_ | refine r_quoU rfl rfl (by omega) (by omega) (by omega) ?_ | refine r_quoI rfl rfl (by omega) (by omega) (by omega) ?_ | refine r_max rfl rfl ?_ | refine r_min rfl rfl ?_ | refine r_notB rfl ?_ | refine r_not rfl ?_ | refine r_eqlB rfl rfl ?_ | refine r_neqB rfl rfl ?_ | refine r_func ?_ | refine r_field rfl ?_ | refine wp_if_true rfl ?_ | refine wp_if_false rfl ?_ | refine wp_if_yes rfl (by omega) ?_ | refine wp_if_no rfl (by omega) ?_ | refine wp_cond_true rfl ?_ | refine wp_cond_false rfl ?_ | refine wp_cond_yes rfl (by omega) ?_ | refine wp_cond_no rfl (by omega) ?_ | refine r_guard_yes rfl rfl (by omega) ?_ | refine r_guard_no rfl rfl (by omega) ?_ | refine r_nilCheck rfl ?_)
        refine r_new (zs := [.bool false, .slice none 0 0]) (us := [.bool (tst ((H : Int) * H < 0)), mr]) rfl (fun _ => rfl) rfl rfl (ones2 rfl hr.one) ?_
        intro w_5 gr k_5 hs_5 hgr
        have hsgr : w.heap.size ≤ gr := Nat.le_trans k.size hs_5
        have ne_g_gr : g ≠ gr := fun e => by have := hg.lt; omega
        have ne_gh_gr : gh ≠ gr := fun e => by have := hgh.lt; omega
        clear hs_5
        replace hS := hS.to k_5
        replace hg := hg.to k_5
        replace h1 := h1.to k_5
        replace hgh := hgh.to k_5
        replace hr := hr.to k_5
        replace k := k.trans k_5
        clear k_5
        have ha := zl_add ((H : Int) * H) (H * H)
        repeat (first | refine wp_seq_region ?_ | refine wp_seq_seq ?_ | refine wp_seq_bregion ?_ | refine wp_seq_bseq ?_ | refine wp_seq_skip ?_ | refine wp_region ?_ | refine r_move (by conv => (lhs; whnf)) ?_ | refine r_assign (by conv => (lhs; whnf)) ?_ | refine r_nil ?_ | refine q_then ?_ | refine wp_block_region ?_ | refine wp_block_seq ?_ | refine wp_block_cond ?_ | refine wp_block_block ?_ | refine wp_block_skip ?_ | refine wp_ret ?_ | refine q_then_ret ?_ | refine q_block_ret ?_ | refine wp_skip ?_ | refine wp_exit ?_ | refine q_then_exit ?_ | refine q_block ?_ | refine q_block_hit rfl ?_ | refine q_block_miss rfl ?_ | refine r_extract rfl rfl ?_ | refine r_len_sl rfl ?_ | refine r_len (by conv => (lhs; whnf)) (by assumption) ?_ | refine r_len_str rfl ?_ | refine r_guard_run rfl rfl ?_ | refine r_guard_skip rfl rfl rfl ?_ | refine r_guard_undef rfl rfl ?_ | refine r_pick_true rfl (by conv => (lhs; whnf)) ?_ | refine r_pick_false rfl (by conv => (lhs; whnf)) ?_ | refine r_lss rfl rfl ?_ | refine r_eql rfl rfl ?_ | refine r_neq rfl rfl ?_ | refine r_gtr rfl rfl ?_ | refine r_geq rfl rfl ?_ | refine r_leq rfl rfl ?_ | refine r_addI rfl rfl (by omega) (by omega) ?_ | refine r_subI rfl rfl (by omega) (by omega) ?_ | refine r_index_sl rfl rfl (by omega) (by omega) ?_ | refine r_index (by conv => (lhs; whnf)) rfl (by assumption) (by omega) (by omega) ?_ | refine r_conv rfl (wrap_i64 (by omega) (by omega)) ?_ | refine r_conv rfl (wrap_u64 (by omega) (by omega)) ?_ | refine r_conv rfl (wrap_u32 (by omega) (by omega)) ?_ | refine r_remP rfl rfl (by omega) (by omega) ?_ | refine r_quoU rfl rfl (by omega) (by omega) (by omega) ?_ | refine r_quoI rfl rfl (by omega) (by omega) (by omega) ?_ | refine r_max rfl rfl ?_ | refine r_min rfl rfl ?_ | refine r_notB rfl ?_ | refine r_not rfl ?_ | refine r_eqlB rfl rfl ?_ | refine r_neqB rfl rfl ?_ | refine r_func ?_ | refine r_field rfl ?_ | refine wp_if_true rfl ?_ | refine wp_if_false rfl ?_ | refine wp_if_yes rfl (by omega) ?_ | refine wp_if_no rfl (by omega) ?_ | refine wp_cond_true rfl ?_ | refine wp_cond_false rfl ?_ | refine wp_cond_yes rfl (by omega) ?_ | refine wp_cond_no rfl (by omega) ?_ | refine r_guard_yes rfl rfl (by omega) ?_ | refine r_guard_no rfl rfl (by omega) ?_ | refine r_nilCheck rfl ?_)
        try refine wp_seq_cond ?_
        refine wp_cond_dec rfl ?_ ?_ <;> intro heven
        · have hpo : P = H * H := by rw [hHH, if_neg (by omega)]
          subst hpo
          repeat (first | refine r_load_all rfl hgr rfl ?_ | refine wp_seq_region ?_ | refine wp_seq_seq ?_ | refine wp_seq_bregion ?_ | refine wp_seq_bseq ?_ | refine wp_seq_skip ?_ | refine wp_region ?_ | refine r_move (by conv => (lhs; whnf)) ?_ | refine r_assign (by conv => (lhs; whnf)) ?_ | refine r_nil ?_ | refine q_then ?_ | refine wp_block_region ?_ | refine wp_block_seq ?_ | refine wp_block_cond ?_ | refine wp_block_block ?_ | refine wp_block_skip ?_ | refine wp_ret ?_ | refine q_then_ret ?_ | refine q_block_ret ?_ | refine wp_skip ?_ | refine wp_exit ?_ | refine q_then_exit ?_ | refine q_block ?_ | refine q_block_hit rfl ?_ | refine q_block_miss rfl ?_ | refine r_extract rfl rfl ?_ | refine r_len_sl rfl ?_ | refine r_len (by conv => (lhs; whnf)) (by assumption) ?_ | refine r_len_str rfl ?_ | refine r_guard_run rfl rfl ?_ | refine r_guard_skip rfl rfl rfl ?_ | refine r_guard_undef rfl rfl ?_ | refine r_pick_true rfl (by conv => (lhs; whnf)) ?_ | refine r_pick_false rfl (by conv => (lhs; whnf)) ?_ | refine r_lss rfl rfl ?_ | refine r_eql rfl rfl ?_ | refine r_neq rfl rfl ?_ | refine r_gtr rfl rfl ?_ | refine r_geq rfl rfl ?_ | refine r_leq rfl rfl ?_ | refine r_addI rfl rfl (by omega) (by omega) ?_ | refine r_subI rfl rfl (by omega) (by omega) ?_ | refine r_index_sl rfl rfl (by omega) (by omega) ?_ | refine r_index (by conv => (lhs; whnf)) rfl (by assumption) (by omega) (by omega) ?_ | refine r_conv rfl (wrap_i64 (by omega) (by omega)) ?_ | refine r_conv rfl (wrap_u64 (by omega) (by omega)) ?_ | refine r_conv rfl (wrap_u32 (by omega) (by omega)) ?_ | refine r_remP rfl rfl (by omega) (by omega) ?_ | refine r_quoU rfl rfl (by omega) (by omega) (by omega) ?_ | refine r_quoI rfl rfl (by omega) (by omega) (by omega) ?_ | refine r_max rfl rfl ?_ | refine r_min rfl rfl ?_ | refine r_notB rfl ?_ | refine r_not rfl ?_ | refine r_eqlB rfl rfl ?_ | refine r_neqB rfl rfl ?_ | refine r_func ?_ | refine r_field rfl ?_ | refine wp_if_true rfl ?_ | refine wp_if_false rfl ?_ | refine wp_if_yes rfl (by omega) ?_ | refine wp_if_no rfl (by omega) ?_ | refine wp_cond_true rfl ?_ | refine wp_cond_false rfl ?_ | refine wp_cond_yes rfl (by omega) ?_ | refine wp_cond_no rfl (by omega) ?_ | refine r_guard_yes rfl rfl (by omega) ?_ | refine r_guard_no rfl rfl (by omega) ?_ | refine r_nilCheck rfl ?_)
          refine r_store2 rfl rfl hg rfl hr.one ?_
          intro w_6 k_6 h_6
          replace hS := hS.to k_6
          replace h1 := h1.wrT k_6 hg (by decide)
          replace hgh := hgh.wr k_6 (by omega)
          replace hr := hr.wrT k_6 hg (by decide)
          replace hgr := hgr.wr k_6 (by omega)
          replace k : Ext w w_6 := k.past k_6 hsg
          replace hg := h_6
          clear h_6 k_6
          repeat (first | refine wp_seq_region ?_ | refine wp_seq_seq ?_ | refine wp_seq_bregion ?_ | refine wp_seq_bseq ?_ | refine wp_seq_skip ?_ | refine wp_region ?_ | refine r_move (by conv => (lhs; whnf)) ?_ | refine r_assign (by conv => (lhs; whnf)) ?_ | refine r_nil ?_ | refine q_then ?_ | refine wp_block_region ?_ | refine wp_block_seq ?_ | refine wp_block_cond ?_ | refine wp_block_block ?_ | refine wp_block_skip ?_ | refine wp_ret ?_ | refine q_then_ret ?_ | refine q_block_ret ?_ | refine wp_skip ?_ | refine wp_exit ?_ | refine q_then_exit ?_ | refine q_block ?_ | refine q_block_hit rfl ?_ | refine q_block_miss rfl ?_ | refine r_extract rfl rfl ?_ | refine r_len_sl rfl ?_ | refine r_len (by conv => (lhs; whnf)) (by assumption) ?_ | refine r_len_str rfl ?_ | refine r_guard_run rfl rfl ?_ | refine r_guard_skip rfl rfl rfl ?_ | refine r_guard_undef rfl rfl ?_ | refine r_pick_true rfl (by conv => (lhs; whnf)) ?_ | refine r_pick_false rfl (by conv => (lhs; whnf)) ?_ | refine r_lss rfl rfl ?_ | refine r_eql rfl rfl ?_ | refine r_neq rfl rfl ?_ | refine r_gtr rfl rfl ?_ | refine r_geq rfl rfl ?_ | refine r_leq rfl rfl ?_ | refine r_addI rfl rfl (by omega) (by omega) ?_ | refine r_subI rfl rfl (by omega) (by omega) ?_ | refine r_index_sl rfl rfl (by omega) (by omega) ?_ | refine r_index (by conv => (lhs; whnf)) rfl (by assumption) (by omega) (by omega) ?_ | refine r_conv rfl (wrap_i64 (by omega) (by omega)) ?_ | refine r_conv rfl (wrap_u64 (by omega) (by omega)) ?_ | refine r_conv rfl (wrap_u32 (by omega) (by omega)) ?_ | refine r_remP rfl rfl (by omega) (by omega) ?_ | refine r_quoU rfl rfl (by omega) (by omega) (by omega) ?_ | refine r_quoI rfl rfl (by omega) (by omega) (by omega) ?_ | refine r_max rfl rfl ?_ | refine r_min rfl rfl ?_ | refine r_notB rfl ?_ | refine r_not rfl ?_ | refine r_eqlB rfl rfl ?_ | refine r_neqB rfl rfl ?_ | refine r_func ?_ | refine r_field rfl ?_ | refine wp_if_true rfl ?_ | refine wp_if_false rfl ?_ | refine wp_if_yes rfl (by omega) ?_ | refine wp_if_no rfl (by omega) ?_ | refine wp_cond_true rfl ?_ | refine wp_cond_false rfl ?_ | refine wp_cond_yes rfl (by omega) ?_ | refine wp_cond_no rfl (by omega) ?_ | refine r_guard_yes rfl rfl (by omega) ?_ | refine r_guard_no rfl rfl (by omega) ?_ | refine r_nilCheck rfl ?_)
          exact end2 rfl (resV_agg (by conv => (lhs; whnf)) hg rfl) (resV_tmp (by conv => (lhs; whnf))) ⟨k, 0, _, mr, rfl, .inl ⟨by omega, rfl, by rw [Int.natCast_mul]⟩, hr⟩
        · have hpo : P = H * H + H * H := by rw [hHH, if_pos (by omega)]
          repeat (first | refine r_load_all rfl hgr rfl ?_ | refine wp_seq_region ?_ | refine wp_seq_seq ?_ | refine wp_seq_bregion ?_ | refine wp_seq_bseq ?_ | refine wp_seq_skip ?_ | refine wp_region ?_ | refine r_move (by conv => (lhs; whnf)) ?_ | refine r_assign (by conv => (lhs; whnf)) ?_ | refine r_nil ?_ | refine q_then ?_ | refine wp_block_region ?_ | refine wp_block_seq ?_ | refine wp_block_cond ?_ | refine wp_block_block ?_ | refine wp_block_skip ?_ | refine wp_ret ?_ | refine q_then_ret ?_ | refine q_block_ret ?_ | refine wp_skip ?_ | refine wp_exit ?_ | refine q_then_exit ?_ | refine q_block ?_ | refine q_block_hit rfl ?_ | refine q_block_miss rfl ?_ | refine r_extract rfl rfl ?_ | refine r_len_sl rfl ?_ | refine r_len (by conv => (lhs; whnf)) (by assumption) ?_ | refine r_len_str rfl ?_ | refine r_guard_run rfl rfl ?_ | refine r_guard_skip rfl rfl rfl ?_ | refine r_guard_undef rfl rfl ?_ | refine r_pick_true rfl (by conv => (lhs; whnf)) ?_ | refine r_pick_false rfl (by conv => (lhs; whnf)) ?_ | refine r_lss rfl rfl ?_ | refine r_eql rfl rfl ?_ | refine r_neq rfl rfl ?_ | refine r_gtr rfl rfl ?_ | refine r_geq rfl rfl ?_ | refine r_leq rfl rfl ?_ | refine r_addI rfl rfl (by omega) (by omega) ?_ | refine r_subI rfl rfl (by omega) (by omega) ?_ | refine r_index_sl rfl rfl (by omega) (by omega) ?_ | refine r_index (by conv => (lhs; whnf)) rfl (by assumption) (by omega) (by omega) ?_ | refine r_conv rfl (wrap_i64 (by omega) (by omega)) ?_ | refine r_conv rfl (wrap_u64 (by omega) (by omega)) ?_ | refine r_conv rfl (wrap_u32 (by omega) (by omega)) ?_ | refine r_remP rfl rfl (by omega) (by omega) ?_ | refine r_quoU rfl rfl (by omega) (by omega) (by omega) ?_ | refine r_quoI rfl rfl (by omega) (by omega) (by omega) ?_ | refine r_max rfl rfl ?_ | refine r_min rfl rfl ?_ | refine r_notB rfl ?_ | refine r_not rfl ?_ | refine r_eqlB rfl rfl ?_ | refine r_neqB rfl rfl ?_ | refine r_func ?_ | refine r_field rfl ?_ | refine wp_if_true rfl ?_ | refine wp_if_false rfl ?_ | refine wp_if_yes rfl (by omega) ?_ | refine wp_if_no rfl (by omega) ?_ | refine wp_cond_true rfl ?_ | refine wp_cond_false rfl ?_ | refine wp_cond_yes rfl (by omega) ?_ | refine wp_cond_no rfl (by omega) ?_ | refine r_guard_yes rfl rfl (by omega) ?_ | refine r_guard_no rfl rfl (by omega) ?_ | refine r_nilCheck rfl ?_)
          refine r_call (iadd_c (a := (H : Int) * H) (b := (H : Int) * H) hS ⟨mr, rfl, hr⟩ ⟨mr, rfl, hr⟩ (by omega) (by omega)) rfl ?_
          rintro v_6 w_6 ⟨k_6, r, e, rfl, hor⟩
          replace hS := hS.to k_6
          replace hg := hg.to k_6
          replace h1 := h1.to k_6
          replace hgh := hgh.to k_6
          replace hr := hr.to k_6
          replace hgr := hgr.to k_6
          replace k := k.trans k_6
          clear k_6
          have hpi : (H : Int) * H + H * H = (P : Int) := by rw [hpo]; simp
          rw [hpi] at hor
          rcases hor with ⟨hf2, rfl, ms, rfl, hs⟩ | ⟨hf2, _⟩
          · skip
            repeat (first | refine wp_seq_region ?_ | refine wp_seq_seq ?_ | refine wp_seq_bregion ?_ | refine wp_seq_bseq ?_ | refine wp_seq_skip ?_ | refine wp_region ?_ | refine r_move (by conv => (lhs; whnf)) ?_ | refine r_assign (by conv => (lhs; whnf)) ?_ | refine r_nil ?_ | refine q_then ?_ | refine wp_block_region ?_ | refine wp_block_seq ?_ | refine wp_block_cond ?_ | refine wp_block_block ?_ | refine wp_block_skip ?_ | refine wp_ret ?_ | refine q_then_ret ?_ | refine q_block_ret ?_ | refine wp_skip ?_ | refine wp_exit ?_ | refine q_then_exit ?_ | refine q_block ?_ | refine q_block_hit rfl ?_ | refine q_block_miss rfl ?_ | refine r_extract rfl rfl ?_ | refine r_len_sl rfl ?_ | refine r_len (by conv => (lhs; whnf)) (by assumption) ?_ | refine r_len_str rfl ?_ | refine r_guard_run rfl rfl ?_ | refine r_guard_skip rfl rfl rfl ?_ | refine r_guard_undef rfl rfl ?_ | refine r_pick_true rfl (by conv => (lhs; whnf)) ?_ | refine r_pick_false rfl (by conv => (lhs; whnf)) ?_ | refine r_lss rfl rfl ?_ | refine r_eql rfl rfl ?_ | refine r_neq rfl rfl ?_ | refine r_gtr rfl rfl ?_ | refine r_geq rfl rfl ?_ | refine r_leq rfl rfl ?_ | refine r_addI rfl rfl (by omega) (by omega) ?_ | refine r_subI rfl rfl (by omega) (by omega) ?_ | refine r_index_sl rfl rfl (by omega) (by omega) ?_ | refine r_index (by conv => (lhs; whnf)) rfl (by assumption) (by omega) (by omega) ?_ | refine r_conv rfl (wrap_i64 (by omega) (by omega)) ?_ | refine r_conv rfl (wrap_u64 (by omega) (by omega)) ?_ | refine r_conv rfl (wrap_u32 (by omega) (by omega)) ?_ | refine r_remP rfl rfl (by omega) (by omega) ?_ | refine r_quoU rfl rfl (by omega) (by omega) (by omega) ?_ | refine r_quoI rfl rfl (by omega) (by omega) (by omega) ?_ | refine r_max rfl rfl ?_ | refine r_min rfl rfl ?_ | refine r_notB rfl ?_ | refine r_not rfl ?_ | refine r_eqlB rfl rfl ?_ | refine r_neqB rfl rfl ?_ | refine r_func ?_ | refine r_field rfl ?_ | refine wp_if_true rfl ?_ | refine wp_if_false rfl ?_ | refine wp_if_yes rfl (by omega) ?_ | refine wp_if_no rfl (by omega) ?_ | refine wp_cond_true rfl ?_ | refine wp_cond_false rfl ?_ | refine wp_cond_yes rfl (by omega) ?_ | refine wp_cond_no rfl (by omega) ?_ | refine r_guard_yes rfl rfl (by omega) ?_ | refine r_guard_no rfl rfl (by omega) ?_ | refine r_nilCheck rfl ?_)
            refine r_store2 rfl rfl hg rfl hs.one ?_
            intro w_7 k_7 h_7
            replace hS := hS.to k_7
            replace h1 := h1.wrT k_7 hg (by decide)
            replace hgh := hgh.wr k_7 (by omega)
            replace hr := hr.wrT k_7 hg (by decide)
            replace hgr := hgr.wr k_7 (by omega)
            replace hs := hs.wrT k_7 hg (by decide)
            replace k : Ext w w_7 := k.past k_7 hsg
            replace hg := h_7
            clear h_7 k_7
            repeat (first | refine wp_seq_region ?_ | refine wp_seq_seq ?_ | refine wp_seq_bregion ?_ | refine wp_seq_bseq ?_ | refine wp_seq_skip ?_ | refine wp_region ?_ | refine r_move (by conv => (lhs; whnf)) ?_ | refine r_assign (by conv => (lhs; whnf)) ?_ | refine r_nil ?_ | refine q_then ?_ | refine wp_block_region ?_ | refine wp_block_seq ?_ | refine wp_block_cond ?_ | refine wp_block_block ?_ | refine wp_block_skip ?_ | refine wp_ret ?_ | refine q_then_ret ?_ | refine q_block_ret ?_ | refine wp_skip ?_ | refine wp_exit ?_ | refine q_then_exit ?_ | refine q_block ?_ | refine q_block_hit rfl ?_ | refine q_block_miss rfl ?_ | refine r_extract rfl rfl ?_ | refine r_len_sl rfl ?_ | refine r_len (by conv => (lhs; whnf)) (by assumption) ?_ | refine r_len_str rfl ?_ | refine r_guard_run rfl rfl ?_ | refine r_guard_skip rfl rfl rfl ?_ | refine r_guard_undef rfl rfl ?_ | refine r_pick_true rfl (by conv => (lhs; whnf)) ?_ | refine r_pick_false rfl (by conv => (lhs; whnf)) ?_ | refine r_lss rfl rfl ?_ | refine r_eql rfl rfl ?_ | refine r_neq rfl rfl ?_ | refine r_gtr rfl rfl ?_ | refine r_geq rfl rfl ?_ | refine r_leq rfl rfl ?_ | refine r_addI rfl rfl (by omega) (by omega) ?_ | refine r_subI rfl rfl (by omega) (by omega) ?_ | refine r_index_sl rfl rfl (by omega) (by omega) ?_ | refine r_index (by conv => (lhs; whnf)) rfl (by assumption) (by omega) (by omega) ?_ | refine r_conv rfl (wrap_i64 (by omega) (by omega)) ?_ | refine r_conv rfl (wrap_u64 (by omega) (by omega)) ?_ | refine r_conv rfl (wrap_u32 (by omega) (by omega)) ?_ | refine r_remP rfl rfl (by omega) (by omega) ?_ | refine r_quoU rfl rfl (by omega) (by omega) (by omega) ?_ | refine r_quoI rfl rfl (by omega) (by omega) (by omega) ?_ | refine r_max rfl rfl ?_ | refine r_min rfl rfl ?_ | refine r_notB rfl ?_ | refine r_not rfl ?_ | refine r_eqlB rfl rfl ?_ | refine r_neqB rfl rfl ?_ | refine r_func ?_ | refine r_field rfl ?_ | refine wp_if_true rfl ?_ | refine wp_if_false rfl ?_ | refine wp_if_yes rfl (by omega) ?_ | refine wp_if_no rfl (by omega) ?_ | refine wp_cond_true rfl ?_ | refine wp_cond_false rfl ?_ | refine wp_cond_yes rfl (by omega) ?_ | refine wp_cond_no rfl (by omega) ?_ | refine r_guard_yes rfl rfl (by omega) ?_ | refine r_guard_no rfl rfl (by omega) ?_ | refine r_nilCheck rfl ?_)
            exact end2 rfl (resV_agg (by conv => (lhs; whnf)) hg rfl) (resV_tmp (by conv => (lhs; whnf))) ⟨k, 0, _, ms, rfl, .inl ⟨by omega, rfl, rfl⟩, hs⟩
          · exact absurd (hfit2.2 (by omega)) hf2
      · have hge : ¬ n / 2 < 50000 := fun h => hf (by rw [hnn]; exact hfit.2 h)
        repeat (first | refine wp_seq_region ?_ | refine wp_seq_seq ?_ | refine wp_seq_bregion ?_ | refine wp_seq_bseq ?_ | refine wp_seq_skip ?_ | refine wp_region ?_ | refine r_move (by conv => (lhs; whnf)) ?_ | refine r_assign (by conv => (lhs; whnf)) ?_ | refine r_nil ?_ | refine q_then ?_ | refine wp_block_region ?_ | refine wp_block_seq ?_ | refine wp_block_cond ?_ | refine wp_block_block ?_ | refine wp_block_skip ?_ | refine wp_ret ?_ | refine q_then_ret ?_ | refine q_block_ret ?_ | refine wp_skip ?_ | refine wp_exit ?_ | refine q_then_exit ?_ | refine q_block ?_ | refine q_block_hit rfl ?_ | refine q_block_miss rfl ?_ | refine r_extract rfl rfl ?_ | refine r_len_sl rfl ?_ | refine r_len (by conv => (lhs; whnf)) (by assumption) ?_ | refine r_len_str rfl ?_ | refine r_guard_run rfl rfl ?_ | refine r_guard_skip rfl rfl rfl ?_ | refine r_guard_undef rfl rfl ?_ | refine r_pick_true rfl (by conv => (lhs; whnf)) ?_ | refine r_pick_false rfl (by conv => (lhs; whnf)) ?_ | refine r_lss rfl rfl ?_ | refine r_eql rfl rfl ?_ | refine r_neq rfl rfl ?_ | refine r_gtr rfl rfl ?_ | refine r_geq rfl rfl ?_ | refine r_leq rfl rfl ?_ | refine r_addI rfl rfl (by omega) (by omega) ?_ | refine r_subI rfl rfl (by omega) (by omega) ?_ | refine r_index_sl rfl rfl (by omega) (by omega) ?_ | refine r_index (by conv => (lhs; whnf)) rfl (by assumption) (by omega) (by omega) ?_ | refine r_conv rfl (wrap_i64 (by omega) (by omega)) ?_ | refine r_conv rfl (wrap_u64 (by omega) (by omega)) ?_ | refine r_conv rfl (wrap_u32 (by omega) (by omega)) ?_ | refine r_remP rfl rfl (by omega) (by omega) ?_ | refine r_quoU rfl rfl (by omega) (by omega) (by omega) ?_ | refine r_quoI rfl rfl (by omega) (by omega) (by omega) ?_ | refine r_max rfl rfl ?_ | refine r_min rfl rfl ?_ | refine r_notB rfl ?_ | refine r_not rfl ?_ | refine r_eqlB rfl rfl ?_ | refine r_neqB rfl rfl ?_ | refine r_func ?_ | refine r_field rfl ?_ | refine wp_if_true rfl ?_ | refine wp_if_false rfl ?_ | refine wp_if_yes rfl (by omega) ?_ | refine wp_if_no rfl (by omega) ?_ | refine wp_cond_true rfl ?_ | refine wp_cond_false rfl ?_ | refine wp_cond_yes rfl (by omega) ?_ | refine wp_cond_no rfl (by omega) ?_ | refine r_guard_yes rfl rfl (by omega) ?_ | refine r_guard_no rfl rfl (by omega) ?_ | refine r_nilCheck rfl ?_)
        refine r_new (zs := [.bool false, .slice none 0 0]) (us := [.bool (tst ((0 : Int) < 0)), mr]) rfl (fun _ => rfl) rfl rfl (ones2 rfl hr.one) ?_
        intro w_5 gr k_5 hs_5 hgr
        have hsgr : w.heap.size ≤ gr := Nat.le_trans k.size hs_5
        have ne_g_gr : g ≠ gr := fun e => by have := hg.lt; omega
        have ne_gh_gr : gh ≠ gr := fun e => by have := hgh.lt; omega
        clear hs_5
        replace hS := hS.to k_5
        replace hg := hg.to k_5
        replace h1 := h1.to k_5
        replace hgh := hgh.to k_5
        replace hr := hr.to k_5
        replace k := k.trans k_5
        clear k_5
        repeat (first | refine r_load_all rfl hgr rfl ?_ | refine wp_seq_region ?_ | refine wp_seq_seq ?_ | refine wp_seq_bregion ?_ | refine wp_seq_bseq ?_ | refine wp_seq_skip ?_ | refine wp_region ?_ | refine r_move (by conv => (lhs; whnf)) ?_ | refine r_assign (by conv => (lhs; whnf)) ?_ | refine r_nil ?_ | refine q_then ?_ | refine wp_block_region ?_ | refine wp_block_seq ?_ | refine wp_block_cond ?_ | refine wp_block_block ?_ | refine wp_block_skip ?_ | refine wp_ret ?_ | refine q_then_ret ?_ | refine q_block_ret ?_ | refine wp_skip ?_ | refine wp_exit ?_ | refine q_then_exit ?_ | refine q_block ?_ | refine q_block_hit rfl ?_ | refine q_block_miss rfl ?_ | refine r_extract rfl rfl ?_ | refine r_len_sl rfl ?_ | refine r_len (by conv => (lhs; whnf)) (by assumption) ?_ | refine r_len_str rfl ?_ | refine r_guard_run rfl rfl ?_ | refine r_guard_skip rfl rfl rfl ?_ | refine r_guard_undef rfl rfl ?_ | refine r_pick_true rfl (by conv => (lhs; whnf)) ?_ | refine r_pick_false rfl (by conv => (lhs; whnf)) ?_ | refine r_lss rfl rfl ?_ | refine r_eql rfl rfl ?_ | refine r_neq rfl rfl ?_ | refine r_gtr rfl rfl ?_ | refine r_geq rfl rfl ?_ | refine r_leq rfl rfl ?_ | refine r_addI rfl rfl (by omega) (by omega) ?_ | refine r_subI rfl rfl (by omega) (by omega) ?_ | refine r_index_sl rfl rfl (by omega) (by omega) ?_ | refine r_index (by conv => (lhs; whnf)) rfl (by assumption) (by omega) (by omega) ?_ | refine r_conv rfl (wrap_i64 (by omega) (by omega)) ?_ | refine r_conv rfl (wrap_u64 (by omega) (by omega)) ?_ | refine r_conv rfl (wrap_u32 (by omega) (by omega)) ?_ | refine r_remP rfl rfl (by omega) (by omega) ?_ | refine r_quoU rfl rfl (by omega) (by omega) (by omega) ?_ | refine r_quoI rfl rfl (by omega) (by omega) (by omega) ?_ | refine r_max rfl rfl ?_ | refine r_min rfl rfl ?_ | refine r_notB rfl ?_ | refine r_not rfl ?_ | refine r_eqlB rfl rfl ?_ | refine r_neqB rfl rfl ?_ | refine r_func ?_ | refine r_field rfl ?_ | refine wp_if_true rfl ?_ | refine wp_if_false rfl ?_ | refine wp_if_yes rfl (by omega) ?_ | refine wp_if_no rfl (by omega) ?_ | refine wp_cond_true rfl ?_ | refine wp_cond_false rfl ?_ | refine wp_cond_yes rfl (by omega) ?_ | refine wp_cond_no rfl (by omega) ?_ | refine r_guard_yes rfl rfl (by omega) ?_ | refine r_guard_no rfl rfl (by omega) ?_ | refine r_nilCheck rfl ?_)
        refine r_store2 rfl rfl hg rfl hr.one ?_
        intro w_6 k_6 h_6
        replace hS := hS.to k_6
        replace h1 := h1.wrT k_6 hg (by decide)
        replace hgh := hgh.wr k_6 (by omega)
        replace hr := hr.wrT k_6 hg (by decide)
        replace hgr := hgr.wr k_6 (by omega)
        replace k : Ext w w_6 := k.past k_6 hsg
        replace hg := h_6
        clear h_6 k_6
        repeat (first | refine wp_seq_region ?_ | refine wp_seq_seq ?_ | refine wp_seq_bregion ?_ | refine wp_seq_bseq ?_ | refine wp_seq_skip ?_ | refine wp_region ?_ | refine r_move (by conv => (lhs; whnf)) ?_ | refine r_assign (by conv => (lhs; whnf)) ?_ | refine r_nil ?_ | refine q_then ?_ | refine wp_block_region ?_ | refine wp_block_seq ?_ | refine wp_block_cond ?_ | refine wp_block_block ?_ | refine wp_block_skip ?_ | refine wp_ret ?_ | refine q_then_ret ?_ | refine q_block_ret ?_ | refine wp_skip ?_ | refine wp_exit ?_ | refine q_then_exit ?_ | refine q_block ?_ | refine q_block_hit rfl ?_ | refine q_block_miss rfl ?_ | refine r_extract rfl rfl ?_ | refine r_len_sl rfl ?_ | refine r_len (by conv => (lhs; whnf)) (by assumption) ?_ | refine r_len_str rfl ?_ | refine r_guard_run rfl rfl ?_ | refine r_guard_skip rfl rfl rfl ?_ | refine r_guard_undef rfl rfl ?_ | refine r_pick_true rfl (by conv => (lhs; whnf)) ?_ | refine r_pick_false rfl (by conv => (lhs; whnf)) ?_ | refine r_lss rfl rfl ?_ | refine r_eql rfl rfl ?_ | refine r_neq rfl rfl ?_ | refine r_gtr rfl rfl ?_ | refine r_geq rfl rfl ?_ | refine r_leq rfl rfl ?_ | refine r_addI rfl rfl (by omega) (by omega) ?_ | refine r_subI rfl rfl (by omega) (by omega) ?_ | refine r_index_sl rfl rfl (by omega) (by omega) ?_ | refine r_index (by conv => (lhs; whnf)) rfl (by assumption) (by omega) (by omega) ?_ | refine r_conv rfl (wrap_i64 (by omega) (by omega)) ?_ | refine r_conv rfl (wrap_u64 (by omega) (by omega)) ?_ | refine r_conv rfl (wrap_u32 (by omega) (by omega)) ?_ | refine r_remP rfl rfl (by omega) (by omega) ?_ | refine r_quoU rfl rfl (by omega) (by omega) (by omega) ?_ | refine r_quoI rfl rfl (by omega) (by omega) (by omega) ?_ | refine r_max rfl rfl ?_ | refine r_min rfl rfl ?_ | refine r_notB rfl ?_ | refine r_not rfl ?_ | refine r_eqlB rfl rfl ?_ | refine r_neqB rfl rfl ?_ | refine r_func ?_ | refine r_field rfl ?_ | refine wp_if_true rfl ?_ | refine wp_if_false rfl ?_ | refine wp_if_yes rfl (by omega) ?_ | refine wp_if_no rfl (by omega) ?_ | refine wp_cond_true rfl ?_ | refine wp_cond_false rfl ?_ | refine wp_cond_yes rfl (by omega) ?_ | refine wp_cond_no rfl (by omega) ?_ | refine r_guard_yes rfl rfl (by omega) ?_ | refine r_guard_no rfl rfl (by omega) ?_ | refine r_nilCheck rfl ?_)
        exact end2 rfl (resV_agg (by conv => (lhs; whnf)) hg rfl) (resV_tmp (by conv => (lhs; whnf))) ⟨k, 11, _, mr, rfl, .inr ⟨by omega, rfl, rfl⟩, hr⟩
    · omega
end Go.Proofs.YtpmnjjmngogkkaaGreatDoor
end

section
set_option linter.unusedVariables false
set_option linter.unusedSimpArgs false
namespace Go.Proofs.YtpmnjjmngogkkaaGreatDoor
open Go Go.RowKit
section rules
variable {P : Program} {n : Nat} {Q : Post} {ρ : Fr} {w : World} {all rest : List Oper} {d : Tmp} {ty : TypeId} {pos : String} {aft : Array Edge}
end rules
theorem agree_base' {W : List (Nat × Nat)} {ρ ρ' : Fr} {d : Nat} {v : Value} (hd : inW W d = true) (h : Agree W ρ ρ') : Agree W (upd ρ d v) ρ' := by
  intro i hi
  rw [h i hi, upd_ne]
  cases hb : Nat.beq i d with
  | false => rfl
  | true => rw [Nat.eq_of_beq_eq_true hb, hd] at hi; cases hi
theorem nval_snoc (l : List Nat) (d : Nat) : nval (l ++ [d]) = nval l + 1000000000 ^ l.length * d := by
  rw [nval_append]
  simp [nval]
end Go.Proofs.YtpmnjjmngogkkaaGreatDoor
end

section
set_option linter.unusedVariables false
set_option linter.unusedSimpArgs false
namespace Go.Proofs.YtpmnjjmngogkkaaGreatDoor
open Go Go.RowKit
/-- v is the reference's integer z. -/
abbrev ZV (S : Nat → Prop) (w : World) (v : Value) (z : Int) : Prop := IntV S 3 .i64 w v z
end Go.Proofs.YtpmnjjmngogkkaaGreatDoor
end

section
set_option linter.unusedVariables false
set_option linter.unusedSimpArgs false
namespace Go.Proofs.YtpmnjjmngogkkaaGreatDoor
open Go Go.RowKit
theorem zz (S : Nat → Prop) {w : World} {q : Rat} {m : Value} (h : NatV S 3 .i64 w m q.num.natAbs) : ZV S w (.agg #[.bool (tst (q.num < 0)), m]) q.num := ⟨m, rfl, h⟩
end Go.Proofs.YtpmnjjmngogkkaaGreatDoor
end

section
set_option linter.unusedVariables false
set_option linter.unusedSimpArgs false
namespace Go.Proofs.YtpmnjjmngogkkaaGreatDoor
open Go Go.RowKit
class FldV (P : Program) (T : TypeId) (f : Nat) (t : outParam TypeId) (off : outParam Nat) : Prop where
  fld : ∃ fs fd, P.underlying T = some (.struct fs) ∧ fs[f]? = some fd ∧ fd.type = t ∧ fd.offset = off
section rules
variable {P : Program} {n : Nat} {Q : Post} {ρ : Fr} {w : World} {all rest : List Oper} {d : Tmp} {ty : TypeId} {pos : String} {aft : Array Edge}
end rules
end Go.Proofs.YtpmnjjmngogkkaaGreatDoor
end

section
set_option linter.unusedVariables false
set_option linter.unusedSimpArgs false
namespace Go.Proofs.YtpmnjjmngogkkaaGreatDoor
open Go Go.RowKit
instance : FldV Tryz.prog 31 1 29 1 := ⟨⟨_, _, Tryz.underlying31, rfl, rfl, rfl⟩⟩
end Go.Proofs.YtpmnjjmngogkkaaGreatDoor
end

section
set_option linter.unusedVariables false
set_option linter.unusedSimpArgs false
namespace Go.Proofs.YtpmnjjmngogkkaaGreatDoor
open Go Go.RowKit
section rules
variable {P : Program} {n : Nat} {Q : Post} {ρ : Fr} {w : World} {all rest : List Oper} {d : Tmp} {ty : TypeId} {pos : String} {aft : Array Edge}
theorem size_str (l : List UInt8) : (⟨l.toArray⟩ : ByteArray).size = l.length := by show l.toArray.size = _; simp
theorem get_str (l : List UInt8) (i : Nat) : (⟨l.toArray⟩ : ByteArray)[i]? = l[i]? := by
  by_cases h : i < l.length
  · have h2 : i < (⟨l.toArray⟩ : ByteArray).size := by rw [size_str]; exact h
    rw [getElem?_pos _ i h2, List.getElem?_eq_getElem h]
    rfl
  · rw [getElem?_neg _ i (by rw [size_str]; exact h), List.getElem?_eq_none (by omega)]
theorem extract_str (l : List UInt8) (a b : Nat) (hb : b ≤ l.length) : (⟨l.toArray⟩ : ByteArray).extract a b = ⟨((l.take b).drop a).toArray⟩ := by
  apply ByteArray.ext
  rw [ByteArray.data_extract]
  simp [List.drop_take]
/-- s[i] -/
theorem r_indexS {t : TypeId} [st : StrT P t] {x ix : Operand} {l : List UInt8} {k : IntKind} {I : Int} {c : UInt8} (i : Nat) (hx : ev ρ x = strV l) (hi : ev ρ ix = .int k I) (hI : I = (i : Int)) (hc : l[i]? = some c)
    (h : WpR P n all Q rest (upd ρ d (.int .u8 (c.toNat : Nat))) w) : WpR P n all Q (⟨some d, .index t x ix, ty, pos, aft, none⟩ :: rest) ρ w := by
  subst hI
  refine r_val rfl rfl ?_ h
  have h1 : (⟨l.toArray⟩ : ByteArray)[i]? = some c := by rw [get_str]; exact hc
  simp [execOp, hx, hi, Instr.index, asIntOf, run_underlying st.und, h1]
/-- s[k:] -/
theorem r_sliceS_low {t : TypeId} [st : StrT P t] {x lo : Operand} {l : List UInt8} {k : IntKind} {I : Int} (i : Nat) (hx : ev ρ x = strV l) (hi : ev ρ lo = .int k I) (hI : I = (i : Int)) (hl : i ≤ l.length)
    (h : WpR P n all Q rest (upd ρ d (strV (l.drop i))) w) : WpR P n all Q (⟨some d, .slice t x (some lo) none none, ty, pos, aft, none⟩ :: rest) ρ w := by
  subst hI
  refine r_val rfl rfl ?_ h
  have h1 := size_str l
  have h2 := extract_str l i l.length (Nat.le_refl _)
  rw [List.take_of_length_le (Nat.le_refl _)] at h2
  simp [execOp, hx, hi, Instr.sliceAt, Instr.slice, Instr.sliceBounds, Instr.sliceBound, asIntOf, run_underlying st.und, h1, hl, h2]
/-- s[:k] -/
theorem r_sliceS_high {t : TypeId} [st : StrT P t] {x hi : Operand} {l : List UInt8} {k : IntKind} {I : Int} (i : Nat) (hx : ev ρ x = strV l) (hi' : ev ρ hi = .int k I) (hI : I = (i : Int)) (hl : i ≤ l.length)
    (h : WpR P n all Q rest (upd ρ d (strV (l.take i))) w) : WpR P n all Q (⟨some d, .slice t x none (some hi) none, ty, pos, aft, none⟩ :: rest) ρ w := by
  subst hI
  refine r_val rfl rfl ?_ h
  have h1 := size_str l
  have h2 := extract_str l 0 i hl
  rw [List.drop_zero] at h2
  simp [execOp, hx, hi', Instr.sliceAt, Instr.slice, Instr.sliceBounds, Instr.sliceBound, asIntOf, run_underlying st.und, h1, hl, h2]
end rules
end Go.Proofs.YtpmnjjmngogkkaaGreatDoor
end

section
namespace Go.Proofs
open Go.Shelf
def Tryz.lays160_ren : Go.Shelf.Ren := ⟨fun | 160 => 155 | 232 => 189 | 231 => 188 | 227 => 190 | 234 => 192 | 233 => 191 | 236 => 194 | 235 => 193 | 228 => 212 | 271 => 215 | 151 => 214 | 197 => 213 | 120 => 229 | 152 => 228 | 260 => 227 | 137 => 235 | 119 => 236 | 224 => 210 | 225 => 209 | 217 => 208 | 266 => 225 | n => n, fun | 9 => 9 | 4 => 4 | 3 => 3 | 5 => 5 | 117 => 211 | 116 => 210 | 0 => 0 | 124 => 214 | 21 => 21 | 105 => 232 | 46 => 70 | 119 => 255 | 139 => 258 | 138 => 257 | n => n, fun | 3 => 4 | 4 => 5 | n => n⟩
theorem Tryz.lays160 : Go.Proofs.Lays.n160 Tryz.prog Tryz.lays160_ren := {
  mixed := by kernel_rfl
  f119 := Tryz.func236.trans (congrArg some (by kernel_rfl))
  f120 := Tryz.func229.trans (congrArg some (by kernel_rfl))
  f137 := Tryz.func235.trans (congrArg some (by kernel_rfl))
  f151 := Tryz.func214.trans (congrArg some (by kernel_rfl))
  f152 := Tryz.func228.trans (congrArg some (by kernel_rfl))
  f160 := Tryz.func155.trans (congrArg some (by kernel_rfl))
  f197 := Tryz.func213.trans (congrArg some (by kernel_rfl))
  f217 := Tryz.func208.trans (congrArg some (by kernel_rfl))
  f224 := Tryz.func210.trans (congrArg some (by kernel_rfl))
  f225 := Tryz.func209.trans (congrArg some (by kernel_rfl))
  f227 := Tryz.func190.trans (congrArg some (by kernel_rfl))
  f228 := Tryz.func212.trans (congrArg some (by kernel_rfl))
  f231 := Tryz.func188.trans (congrArg some (by kernel_rfl))
  f232 := Tryz.func189.trans (congrArg some (by kernel_rfl))
  f233 := Tryz.func191.trans (congrArg some (by kernel_rfl))
  f234 := Tryz.func192.trans (congrArg some (by kernel_rfl))
  f235 := Tryz.func193.trans (congrArg some (by kernel_rfl))
  f236 := Tryz.func194.trans (congrArg some (by kernel_rfl))
  f260 := Tryz.func227.trans (congrArg some (by kernel_rfl))
  f266 := Tryz.func225.trans (congrArg some (by kernel_rfl))
  f271 := Tryz.func215.trans (congrArg some (by kernel_rfl))
  t0 := Tryz.underlying0
  a0 := Tryz.isAgg0
  z0 := Tryz.sizeOf0
  v0 := Tryz.zeroValue0
  t3 := Tryz.underlying3
  a3 := Tryz.isAgg3
  z3 := Tryz.sizeOf3
  v3 := Tryz.zeroValue3
  t4 := Tryz.underlying4
  a4 := Tryz.isAgg4
  z4 := Tryz.sizeOf4
  v4 := Tryz.zeroValue4
  t5 := Tryz.underlying5
  a5 := Tryz.isAgg5
  z5 := Tryz.sizeOf5
  v5 := Tryz.zeroValue5
  t9 := Tryz.underlying9
  a9 := Tryz.isAgg9
  z9 := Tryz.sizeOf9
  v9 := Tryz.zeroValue9
  t21 := Tryz.underlying21
  a21 := Tryz.isAgg21
  z21 := Tryz.sizeOf21
  v21 := Tryz.zeroValue21
  t46 := Tryz.underlying70
  a46 := Tryz.isAgg70
  z46 := Tryz.sizeOf70
  v46 := Tryz.zeroValue70
  t105 := Tryz.underlying232
  a105 := Tryz.isAgg232
  z105 := Tryz.sizeOf232
  v105 := Tryz.zeroValue232
  t116 := Tryz.underlying210
  a116 := Tryz.isAgg210
  z116 := Tryz.sizeOf210
  t117 := Tryz.underlying211
  a117 := Tryz.isAgg211
  z117 := Tryz.sizeOf211
  v117 := Tryz.zeroValue211
  t119 := Tryz.underlying255
  a119 := Tryz.isAgg255
  z119 := Tryz.sizeOf255
  t124 := Tryz.underlying214
  a124 := Tryz.isAgg214
  z124 := Tryz.sizeOf214
  v124 := Tryz.zeroValue214
  t138 := Tryz.underlying257
  a138 := Tryz.isAgg257
  z138 := Tryz.sizeOf257
  v138 := Tryz.zeroValue257
  t139 := Tryz.underlying258
  a139 := Tryz.isAgg258
  z139 := Tryz.sizeOf258
  v139 := Tryz.zeroValue258
  g3 := by kernel_rfl
  g4 := by kernel_rfl }
def Tryz.lays103_ren : Go.Shelf.Ren := ⟨fun | 103 => 112 | 210 => 154 | 206 => 187 | n => n, fun | 9 => 9 | 4 => 4 | 24 => 139 | 3 => 3 | n => n, fun | n => n⟩
theorem Tryz.lays103 : Go.Proofs.Lays.n103 Tryz.prog Tryz.lays103_ren := {
  mixed := by kernel_rfl
  f103 := Tryz.func112.trans (congrArg some (by kernel_rfl))
  f206 := Tryz.func187.trans (congrArg some (by kernel_rfl))
  f210 := Tryz.func154.trans (congrArg some (by kernel_rfl))
  t3 := Tryz.underlying3
  a3 := Tryz.isAgg3
  z3 := Tryz.sizeOf3
  v3 := Tryz.zeroValue3
  t4 := Tryz.underlying4
  a4 := Tryz.isAgg4
  z4 := Tryz.sizeOf4
  v4 := Tryz.zeroValue4
  t9 := Tryz.underlying9
  a9 := Tryz.isAgg9
  z9 := Tryz.sizeOf9
  v9 := Tryz.zeroValue9
  t24 := Tryz.underlying139
  a24 := Tryz.isAgg139
  z24 := Tryz.sizeOf139
  v24 := Tryz.zeroValue139 }
open Go.RowKit in
/-- strings.CutPrefix: "CutPrefix returns s without the provided leading prefix string and reports whether it found the prefix. If s doesn't start with prefix, CutPrefix returns s, false. If prefix is the empty string, CutPrefix returns s, true.": IT RETURNS '(Lib.trimPrefix s p, Lib.hasPrefix s p)'; the world is as it was. (LAID: no walk: one application.) -/
theorem Tryz.strings_CutPrefix (s p : ByteArray) (w : World) :
    Calls Tryz.prog 112 #[.string s, .string p] w fun e w' => e = .returned (.tuple #[.string ⟨(Lib.trimPrefix s.data.toList p.data.toList).toArray⟩, .bool (Lib.hasPrefix s.data.toList p.data.toList)]) ∧ w' = w := Any.strings_CutPrefix Tryz.lays103 s p w
def Tryz.lays172_ren : Go.Shelf.Ren := ⟨fun | 172 => 156 | 244 => 195 | 245 => 159 | 247 => 158 | 279 => 197 | 280 => 198 | 281 => 199 | 282 => 200 | 287 => 196 | 316 => 218 | 171 => 138 | 205 => 219 | 321 => 216 | 322 => 217 | 243 => 173 | 246 => 203 | 283 => 220 | 284 => 221 | 285 => 222 | 286 => 223 | 129 => 231 | 317 => 230 | 318 => 232 | 319 => 233 | 320 => 234 | 337 => 237 | 338 => 238 | n => n, fun | 9 => 9 | 3 => 3 | 75 => 145 | 76 => 173 | 4 => 4 | 5 => 5 | 167 => 215 | 37 => 73 | 0 => 0 | 85 => 146 | 2 => 2 | 168 => 218 | 53 => 117 | 175 => 216 | 46 => 70 | 210 => 238 | 127 => 200 | 145 => 250 | 143 => 248 | 21 => 21 | 171 => 240 | 173 => 243 | 212 => 251 | 51 => 127 | 20 => 20 | 213 => 252 | 232 => 261 | 233 => 262 | 80 => 36 | n => n, fun | 15 => 1 | 16 => 2 | 17 => 3 | 18 => 6 | 19 => 7 | n => n⟩
theorem Tryz.lays172 : Go.Proofs.Lays.n172 Tryz.prog Tryz.lays172_ren := {
  mixed := by kernel_rfl
  f129 := Tryz.func231.trans (congrArg some (by kernel_rfl))
  f171 := Tryz.func138.trans (congrArg some (by kernel_rfl))
  f172 := Tryz.func156.trans (congrArg some (by kernel_rfl))
  f205 := Tryz.func219.trans (congrArg some (by kernel_rfl))
  f243 := Tryz.func173.trans (congrArg some (by kernel_rfl))
  f244 := Tryz.func195.trans (congrArg some (by kernel_rfl))
  f245 := Tryz.func159.trans (congrArg some (by kernel_rfl))
  f246 := Tryz.func203.trans (congrArg some (by kernel_rfl))
  f247 := Tryz.func158.trans (congrArg some (by kernel_rfl))
  f279 := Tryz.func197.trans (congrArg some (by kernel_rfl))
  f280 := Tryz.func198.trans (congrArg some (by kernel_rfl))
  f281 := Tryz.func199.trans (congrArg some (by kernel_rfl))
  f282 := Tryz.func200.trans (congrArg some (by kernel_rfl))
  f283 := Tryz.func220.trans (congrArg some (by kernel_rfl))
  f284 := Tryz.func221.trans (congrArg some (by kernel_rfl))
  f285 := Tryz.func222.trans (congrArg some (by kernel_rfl))
  f286 := Tryz.func223.trans (congrArg some (by kernel_rfl))
  f287 := Tryz.func196.trans (congrArg some (by kernel_rfl))
  f316 := Tryz.func218.trans (congrArg some (by kernel_rfl))
  f317 := Tryz.func230.trans (congrArg some (by kernel_rfl))
  f318 := Tryz.func232.trans (congrArg some (by kernel_rfl))
  f319 := Tryz.func233.trans (congrArg some (by kernel_rfl))
  f320 := Tryz.func234.trans (congrArg some (by kernel_rfl))
  f321 := Tryz.func216.trans (congrArg some (by kernel_rfl))
  f322 := Tryz.func217.trans (congrArg some (by kernel_rfl))
  f337 := Tryz.func237.trans (congrArg some (by kernel_rfl))
  f338 := Tryz.func238.trans (congrArg some (by kernel_rfl))
  t0 := Tryz.underlying0
  a0 := Tryz.isAgg0
  z0 := Tryz.sizeOf0
  v0 := Tryz.zeroValue0
  t2 := Tryz.underlying2
  a2 := Tryz.isAgg2
  z2 := Tryz.sizeOf2
  v2 := Tryz.zeroValue2
  t3 := Tryz.underlying3
  a3 := Tryz.isAgg3
  z3 := Tryz.sizeOf3
  v3 := Tryz.zeroValue3
  t4 := Tryz.underlying4
  a4 := Tryz.isAgg4
  z4 := Tryz.sizeOf4
  v4 := Tryz.zeroValue4
  t5 := Tryz.underlying5
  a5 := Tryz.isAgg5
  z5 := Tryz.sizeOf5
  v5 := Tryz.zeroValue5
  t9 := Tryz.underlying9
  a9 := Tryz.isAgg9
  z9 := Tryz.sizeOf9
  v9 := Tryz.zeroValue9
  t20 := Tryz.underlying20
  a20 := Tryz.isAgg20
  z20 := Tryz.sizeOf20
  v20 := Tryz.zeroValue20
  t21 := Tryz.underlying21
  a21 := Tryz.isAgg21
  z21 := Tryz.sizeOf21
  v21 := Tryz.zeroValue21
  t37 := Tryz.underlying73
  a37 := Tryz.isAgg73
  z37 := Tryz.sizeOf73
  v37 := Tryz.zeroValue73
  t46 := Tryz.underlying70
  a46 := Tryz.isAgg70
  z46 := Tryz.sizeOf70
  v46 := Tryz.zeroValue70
  t51 := Tryz.underlying127
  a51 := Tryz.isAgg127
  z51 := Tryz.sizeOf127
  v51 := Tryz.zeroValue127
  t53 := Tryz.underlying117
  a53 := Tryz.isAgg117
  z53 := Tryz.sizeOf117
  v53 := Tryz.zeroValue117
  t75 := Tryz.underlying145
  a75 := Tryz.isAgg145
  z75 := Tryz.sizeOf145
  v75 := Tryz.zeroValue145
  t76 := Tryz.underlying173
  a76 := Tryz.isAgg173
  z76 := Tryz.sizeOf173
  v76 := Tryz.zeroValue173
  t85 := Tryz.underlying146
  a85 := Tryz.isAgg146
  z85 := Tryz.sizeOf146
  v85 := Tryz.zeroValue146
  t127 := Tryz.underlying200
  a127 := Tryz.isAgg200
  z127 := Tryz.sizeOf200
  v127 := Tryz.zeroValue200
  t143 := Tryz.underlying248
  a143 := Tryz.isAgg248
  z143 := Tryz.sizeOf248
  v143 := Tryz.zeroValue248
  t145 := Tryz.underlying250
  a145 := Tryz.isAgg250
  z145 := Tryz.sizeOf250
  v145 := Tryz.zeroValue250
  t167 := Tryz.underlying215
  a167 := Tryz.isAgg215
  z167 := Tryz.sizeOf215
  v167 := Tryz.zeroValue215
  t168 := Tryz.underlying218
  a168 := Tryz.isAgg218
  z168 := Tryz.sizeOf218
  v168 := Tryz.zeroValue218
  t171 := Tryz.underlying240
  a171 := Tryz.isAgg240
  z171 := Tryz.sizeOf240
  v171 := Tryz.zeroValue240
  t173 := Tryz.underlying243
  a173 := Tryz.isAgg243
  z173 := Tryz.sizeOf243
  v173 := Tryz.zeroValue243
  t175 := Tryz.underlying216
  a175 := Tryz.isAgg216
  z175 := Tryz.sizeOf216
  v175 := Tryz.zeroValue216
  t210 := Tryz.underlying238
  a210 := Tryz.isAgg238
  z210 := Tryz.sizeOf238
  v210 := Tryz.zeroValue238
  t212 := Tryz.underlying251
  a212 := Tryz.isAgg251
  z212 := Tryz.sizeOf251
  v212 := Tryz.zeroValue251
  t213 := Tryz.underlying252
  a213 := Tryz.isAgg252
  z213 := Tryz.sizeOf252
  t232 := Tryz.underlying261
  a232 := Tryz.isAgg261
  z232 := Tryz.sizeOf261
  v232 := Tryz.zeroValue261
  t233 := Tryz.underlying262
  a233 := Tryz.isAgg262
  z233 := Tryz.sizeOf262
  v233 := Tryz.zeroValue262
  g15 := by kernel_rfl
  g16 := by kernel_rfl
  g17 := by kernel_rfl
  g18 := by kernel_rfl
  g19 := by kernel_rfl }
open Go.RowKit in
/-- strconv.Atoi: "Atoi is equivalent to ParseInt(s, 10, 0), converted to type int.": AT A DECIMAL NUMERAL OF AT MOST 18 BYTES: its value, and a nil error. The world behind the call: the one new row that the library's '[]byte(s)' lays. (LAID: no walk: one application.) -/
theorem Tryz.strconv_Atoi (s : ByteArray) (n : Int) (hl : s.size ≤ 18) (h : Lib.atoi s.data.toList = some n) (w : World) :
    Calls Tryz.prog 156 #[.string s] w fun e w' => e = .returned (.tuple #[.int .i64 n, .nilIface]) ∧ ∃ t, w' = Lib.bytesWorld w 5 t := Any.strconv_Atoi Tryz.lays172 s n hl h w
def Tryz.lays217_ren : Go.Shelf.Ren := ⟨fun | 217 => 208 | 266 => 225 | n => n, fun | 9 => 9 | 5 => 5 | 3 => 3 | n => n, fun | n => n⟩
theorem Tryz.lays217 : Go.Proofs.Lays.n217 Tryz.prog Tryz.lays217_ren := {
  mixed := by kernel_rfl
  f217 := Tryz.func208.trans (congrArg some (by kernel_rfl))
  f266 := Tryz.func225.trans (congrArg some (by kernel_rfl))
  t3 := Tryz.underlying3
  a3 := Tryz.isAgg3
  z3 := Tryz.sizeOf3
  v3 := Tryz.zeroValue3
  t5 := Tryz.underlying5
  a5 := Tryz.isAgg5
  z5 := Tryz.sizeOf5
  v5 := Tryz.zeroValue5
  t9 := Tryz.underlying9
  a9 := Tryz.isAgg9
  z9 := Tryz.sizeOf9
  v9 := Tryz.zeroValue9 }
open Go.RowKit Go.Lib in
/-- internal/stringslite.IndexByte (what strings.IndexByte calls): IT RETURNS 'Lib.indexByte s c'; the world is as it was. (LAID: no walk: one application.) -/
theorem Tryz.stringslite_IndexByte (s : ByteArray) (c : Int) (w : World) :
    Calls Tryz.prog 208 #[.string s, .int .u8 c] w fun e w' => e = .returned (.int .i64 (Lib.indexByte s.data.toList c.toNat.toUInt8)) ∧ w' = w := Any.stringslite_IndexByte Tryz.lays217 s c w
end Go.Proofs
end

section
set_option linter.unusedVariables false
set_option linter.unusedSimpArgs false
namespace Go.Proofs.YtpmnjjmngogkkaaGreatDoor
open Go Go.RowKit
abbrev tenDigits : List UInt8 := [48, 49, 50, 51, 52, 53, 54, 55, 56, 57]
theorem ten_contains (c : UInt8) : tenDigits.contains c = true ↔ Dig c := by
  have h := c.toNat_lt
  constructor
  · intro h
    simp only [List.contains_eq_mem, decide_eq_true_eq, List.mem_cons, List.not_mem_nil, or_false] at h
    rcases h with rfl | rfl | rfl | rfl | rfl | rfl | rfl | rfl | rfl | rfl <;> exact ⟨by decide, by decide⟩
  · rintro ⟨h1, h2⟩
    simp only [List.contains_eq_mem, decide_eq_true_eq, List.mem_cons, List.not_mem_nil, or_false]
    have e : ∀ k : UInt8, c.toNat = k.toNat → c = k := fun k hk => UInt8.toNat_inj.1 hk
    have : c.toNat = 48 ∨ c.toNat = 49 ∨ c.toNat = 50 ∨ c.toNat = 51 ∨ c.toNat = 52 ∨ c.toNat = 53 ∨ c.toNat = 54 ∨ c.toNat = 55 ∨ c.toNat = 56 ∨ c.toNat = 57 := by omega
    rcases this with h | h | h | h | h | h | h | h | h | h
    · exact .inl (e 48 h)
    · exact .inr (.inl (e 49 h))
    · exact .inr (.inr (.inl (e 50 h)))
    · exact .inr (.inr (.inr (.inl (e 51 h))))
    · exact .inr (.inr (.inr (.inr (.inl (e 52 h)))))
    · exact .inr (.inr (.inr (.inr (.inr (.inl (e 53 h))))))
    · exact .inr (.inr (.inr (.inr (.inr (.inr (.inl (e 54 h)))))))
    · exact .inr (.inr (.inr (.inr (.inr (.inr (.inr (.inl (e 55 h))))))))
    · exact .inr (.inr (.inr (.inr (.inr (.inr (.inr (.inr (.inl (e 56 h)))))))))
    · exact .inr (.inr (.inr (.inr (.inr (.inr (.inr (.inr (.inr (e 57 h)))))))))
theorem dropW_nil {p : UInt8 → Bool} : ∀ {l : List UInt8}, l.dropWhile p = [] ↔ ∀ x ∈ l, p x = true
  | [] => by simp
  | c :: r => by
    rw [List.dropWhile_cons]
    split
    · rename_i h
      rw [dropW_nil]
      simp [h]
    · rename_i h
      constructor
      · intro e; cases e
      · intro e; exact absurd (e c (List.mem_cons_self ..)) h
theorem trim_nil (s : List UInt8) : Lib.trimS s tenDigits = [] ↔ ∀ c ∈ s, Dig c := by
  unfold Lib.trimS Lib.trimLeftS Lib.trimRightS
  rw [dropW_nil]
  constructor
  · intro h
    have h2 : ∀ c ∈ s.reverse.dropWhile (tenDigits.contains ·), Dig c := fun c hc => (ten_contains c).1 (h c (List.mem_reverse.2 hc))
    have h3 : s.reverse.dropWhile (tenDigits.contains ·) = [] := by
      cases hd : s.reverse.dropWhile (tenDigits.contains ·) with
      | nil => rfl
      | cons c r =>
        exfalso
        have h4 : tenDigits.contains c = true := (ten_contains c).2 (h2 c (by rw [hd]; exact List.mem_cons_self ..))
        have h5 := List.head?_dropWhile_not (tenDigits.contains ·) s.reverse
        rw [hd] at h5
        simp only [List.head?_cons] at h5
        rw [h4] at h5
        cases h5
    intro c hc
    exact (ten_contains c).1 (dropW_nil.1 h3 c (List.mem_reverse.2 hc))
  · intro h c hc
    have h1 := List.mem_reverse.1 hc
    exact (ten_contains c).2 (h c (List.mem_reverse.1 ((List.dropWhile_sublist _).subset h1)))
theorem strTrim_c {w : World} {s : List UInt8} (hl : s.length ≤ 9223372036854775807) :
    Gives Tryz.prog 155 [strV s, strV tenDigits] w fun v' w' => v' = strV (Lib.trimS s tenDigits) ∧ Ext w w' :=
  Calls.mono (Any.strings_Trim_laid Tryz.lays160 (by kernel_rfl) ⟨s.toArray⟩ ⟨tenDigits.toArray⟩ w (by rw [size_str]; exact hl) (by decide) (ascii_of_all (by decide))) fun e w' ⟨he, hw⟩ => ⟨_, he, rfl, .of_below hw⟩
theorem isDigits_c {w : World} {s : List UInt8} (hl : s.length ≤ 9223372036854775807) :
    Gives Tryz.prog 113 [strV s] w fun v' w' => v' = .bool (tst (DecL s)) ∧ Ext w w' := by
  have hbd : ¬ (s = [] ∨ (s.head? = some 48 ∧ 1 < s.length)) → (DecL s ↔ ∀ c ∈ s, Dig c) := by
    intro h
    refine ⟨fun h2 => h2.2.1, fun h2 => ⟨fun e => h (.inl e), h2, fun h3 => ?_⟩⟩
    have h4 : ¬ 1 < s.length := fun h4 => h (.inr ⟨h3, h4⟩)
    have h5 : s ≠ [] := fun e => h (.inl e)
    have := List.length_pos_iff.2 h5
    omega
  refine gives_of Tryz.func113 rfl rfl rfl ?_
  repeat (first | refine wp_seq_region ?_ | refine wp_seq_seq ?_ | refine wp_region ?_ | refine r_move (by conv => (lhs; whnf)) ?_ | refine r_assign (by conv => (lhs; whnf)) ?_ | refine r_nil ?_)
  refine r_eqlS (b := []) rfl rfl ?_
  repeat (first | refine r_move (by conv => (lhs; whnf)) ?_)
  refine r_mid [(5, 14)] (fun ρ w' => ρ 14 = .bool (tst (s = [] ∨ (s.head? = some 48 ∧ 1 < s.length))) ∧ w' = w) ?_ ?_
  · refine r_guard_split rfl rfl ?_ ?_ <;> intro hnil
    · repeat (first | refine r_nil ?_ | refine q_then ?_ | refine r_guard_skip rfl rfl rfl ?_ | refine r_guard_undef rfl rfl ?_ | refine r_pick_true rfl (by conv => (lhs; whnf)) ?_)
      exact ⟨by (repeat (first | refine agree_upd rfl ?_ | exact agree_over | refine agree_sub rfl ?_ | exact agree_refl | refine agree_base rfl ?_ | refine agree_base' rfl ?_)), by rw [tst_true (Or.inl hnil)]; rfl, rfl⟩
    · obtain ⟨c, hc⟩ : ∃ c, s[0]? = some c := ⟨s[0]'(List.length_pos_iff.2 hnil), List.getElem?_eq_getElem _⟩
      have hc48 : (c.toNat : Int) = 48 ↔ s.head? = some 48 := by
        rw [List.head?_eq_getElem?, hc]
        constructor
        · intro h
          congr 1
          apply UInt8.toNat_inj.1
          show c.toNat = 48
          omega
        · intro h
          have := Option.some.inj h
          subst this
          rfl
      repeat (first | refine r_indexS 0 rfl rfl rfl hc ?_ | refine r_move (by conv => (lhs; whnf)) ?_ | refine r_guard_run rfl rfl ?_ | refine r_eql rfl rfl ?_)
      refine r_guard_split rfl rfl ?_ ?_ <;> intro h48
      · repeat (first | refine r_lenS rfl ?_ | refine r_move (by conv => (lhs; whnf)) ?_ | refine r_nil ?_ | refine q_then ?_ | refine r_guard_run rfl rfl ?_ | refine r_pick_true rfl (by conv => (lhs; whnf)) ?_ | refine r_pick_false rfl (by conv => (lhs; whnf)) ?_ | refine r_gtr rfl rfl ?_)
        refine ⟨by (repeat (first | refine agree_upd rfl ?_ | exact agree_over | refine agree_sub rfl ?_ | exact agree_refl | refine agree_base rfl ?_ | refine agree_base' rfl ?_)), congrArg Value.bool (tst_congr ?_), rfl⟩
        exact ⟨fun h => Or.inr ⟨hc48.1 h48, by omega⟩, fun h => h.elim (fun h => absurd h hnil) fun h => by omega⟩
      · repeat (first | refine r_nil ?_ | refine q_then ?_ | refine r_guard_run rfl rfl ?_ | refine r_guard_skip rfl rfl rfl ?_ | refine r_pick_false rfl (by conv => (lhs; whnf)) ?_)
        refine ⟨by (repeat (first | refine agree_upd rfl ?_ | exact agree_over | refine agree_sub rfl ?_ | exact agree_refl | refine agree_base rfl ?_ | refine agree_base' rfl ?_)), ?_, rfl⟩
        rw [tst_false (show ¬ (s = [] ∨ (s.head? = some 48 ∧ 1 < s.length)) from fun h => h.elim hnil fun h => h48 (hc48.2 h.1))]
        rfl
  rintro u1 w1 ⟨h14, rfl⟩
  refine wp_learn 14 h14 ?_
  clear h14
  skip
  try refine wp_seq_cond ?_
  refine wp_cond_dec rfl ?_ ?_ <;> intro hbad
  · repeat (first | refine wp_seq_region ?_ | refine wp_region ?_ | refine r_assign (by conv => (lhs; whnf)) ?_ | refine r_nil ?_ | refine q_then ?_ | refine wp_ret ?_ | refine q_then_ret ?_)
    refine end_tmp rfl (by conv => (lhs; whnf)) ⟨?_, .refl⟩
    rw [tst_false]
    rintro ⟨h1, h2, h3⟩
    rcases hbad with h | h
    · exact h1 h
    · have := h3 h.1; omega
  · repeat (first | refine wp_seq_region ?_ | refine wp_region ?_ | refine r_move (by conv => (lhs; whnf)) ?_ | refine wp_skip ?_)
    refine r_call (strTrim_c hl) rfl ?_
    rintro v2 w2 ⟨rfl, k2⟩
    refine r_eqlS (b := []) rfl rfl ?_
    repeat (first | refine r_assign (by conv => (lhs; whnf)) ?_ | refine r_nil ?_ | refine q_then ?_ | refine wp_ret ?_)
    refine end_tmp rfl (by conv => (lhs; whnf)) ⟨?_, k2⟩
    rw [tst_congr (trim_nil s), ← tst_congr (hbd hbad)]
theorem decFrom_digs : ∀ {l : List UInt8} {a : Nat}, (∀ c ∈ l, Dig c) → Lib.decFrom a l = some (l.foldl (fun a c => 10 * a + (c.toNat - 48)) a)
  | [], a, _ => rfl
  | c :: r, a, h => by
    have h1 := h c (List.mem_cons_self ..)
    unfold Dig at h1
    have h2 := decFrom_digs (l := r) (a := a * 10 + (c.toNat - 48)) fun x hx => h x (List.mem_cons_of_mem _ hx)
    unfold Lib.decFrom Lib.digitVal
    rw [if_pos h1]
    simp only [List.foldl_cons]
    rw [h2, Nat.mul_comm a]
theorem atoi_digs {l : List UInt8} (hne : l ≠ []) (h : ∀ c ∈ l, Dig c) : Lib.atoi l = some (digV l : Int) := by
  cases l with
  | nil => exact absurd rfl hne
  | cons c r =>
    have h1 := h c (List.mem_cons_self ..)
    unfold Dig at h1
    have e45 : (c == 45) = false := by
      rw [beq_eq_false_iff_ne]
      rintro rfl
      exact absurd h1.1 (by decide)
    have e43 : (c == 43) = false := by
      rw [beq_eq_false_iff_ne]
      rintro rfl
      exact absurd h1.1 (by decide)
    have e : Lib.atoi (c :: r) = if (c == 45) = true then (Lib.decNat r).map fun (m : Nat) => -(m : Int) else if (c == 43) = true then (Lib.decNat r).map fun (m : Nat) => (m : Int) else (Lib.decNat (c :: r)).map fun (m : Nat) => (m : Int) := rfl
    have e2 : Lib.decNat (c :: r) = Lib.decFrom 0 (c :: r) := rfl
    rw [e, e45, e43, e2, decFrom_digs h]
    rfl
theorem ext_bytes {w : World} {T : TypeId} {t : ByteArray} : Ext w (Lib.bytesWorld w T t) := .of_below (Lib.bytesWorld_below w T t)
theorem atoi_c {w : World} {l : List UInt8} (hne : l ≠ []) (h : ∀ c ∈ l, Dig c) (hl : l.length ≤ 18) :
    Gives Tryz.prog 156 [strV l] w fun v' w' => v' = .tuple #[.int .i64 (digV l : Int), .nilIface] ∧ Ext w w' :=
  Calls.mono (Tryz.strconv_Atoi ⟨l.toArray⟩ (digV l : Int) (by rw [size_str]; exact hl) (atoi_digs hne h) w) fun e w' ⟨he, t, hw⟩ => ⟨_, he, rfl, hw ▸ ext_bytes⟩
end Go.Proofs.YtpmnjjmngogkkaaGreatDoor
end

section
set_option linter.unusedVariables false
set_option linter.unusedSimpArgs false
namespace Go.Proofs.YtpmnjjmngogkkaaGreatDoor
open Go Go.RowKit
theorem parsed_c {S : Nat → Prop} {w : World} {s : List UInt8} (hS : Up S w) (hd : ∀ c ∈ s, Dig c) (hl : s.length ≤ 1000000) :
    Gives Tryz.prog 114 [strV s] w fun v' w' => Ext w w' ∧ NatV S 127 .u32 w' v' (digV s) := by
  refine gives_of Tryz.func114 rfl rfl rfl ?_
  repeat (first | refine wp_seq_region ?_ | refine wp_region ?_ | refine r_assign (by conv => (lhs; whnf)) ?_ | refine r_nil ?_ | refine q_then ?_)
  try refine wp_seq_block ?_
  refine wp_for ((0, 0) :: [(0, 0), (3, 28)]) (fun k ρ w' => ∃ (L : List Nat) (v : Value), k ≤ s.length ∧ ρ 0 = strV (s.take k) ∧ ρ 3 = v ∧ (0 < k → 9 * L.length + k = s.length) ∧ L.length ≤ s.length ∧ digV (s.drop k) = nval L ∧ Digs L ∧ Ext w w' ∧ Own w.heap.size 127 1 w' v L.length (L.map fun d : Nat => .int .u32 d)) s.length ?_ ?_
  · exact ⟨[], _, Nat.le_refl _, by rw [List.take_of_length_le (Nat.le_refl _)]; rfl, rfl, by simp, by simp, by rw [List.drop_of_length_le (Nat.le_refl _)]; rfl, digs_nil, .refl, own_nil⟩
  rintro k u w1 ⟨L, v, hk, h0, h3, hcnt, hLl, hval, hLd, k1, ho⟩
  refine wp_learn 0 h0 (wp_learn 3 h3 ?_)
  clear h0 h3
  have htk : (s.take k).length = k := by rw [List.length_take]; omega
  repeat (first | refine r_lenS rfl ?_ | refine wp_seq_region ?_ | refine wp_seq_seq ?_ | refine wp_region ?_ | refine r_move (by conv => (lhs; whnf)) ?_ | refine r_nil ?_ | refine q_then ?_ | refine r_gtr rfl rfl ?_)
  try refine wp_seq_cond ?_
  refine wp_cond_dec rfl ?_ ?_ <;> intro hc
  · obtain ⟨cut, hcut⟩ : ∃ cut, cut = k - 9 := ⟨_, rfl⟩
    have hmax : max (0 : Int) (((s.take k).length : Int) - 9) = (cut : Int) := by omega
    obtain ⟨ch, hch⟩ : ∃ ch, ch = (s.take k).drop cut := ⟨_, rfl⟩
    have hchl : ch.length = k - cut := by rw [hch, List.length_drop, htk]
    have hchd : ∀ c ∈ ch, Dig c := fun c hc => hd c (List.mem_of_mem_take (List.mem_of_mem_drop (hch ▸ hc)))
    have hchne : ch ≠ [] := by intro e; rw [e] at hchl; simp at hchl; omega
    have hdv := digV_lt hchd
    have hdv9 : digV ch < 1000000000 := by
      have : 10 ^ ch.length ≤ 10 ^ 9 := Nat.pow_le_pow_right (by omega) (by omega)
      omega
    have hsd : s.drop cut = ch ++ s.drop k := by
      rw [hch]
      conv => lhs; rw [← List.take_append_drop k s]
      rw [List.drop_append_of_le_length (by omega)]
    repeat (first | refine r_lenS rfl ?_ | refine wp_seq_region ?_ | refine wp_region ?_ | refine r_move (by conv => (lhs; whnf)) ?_ | refine r_assign (by conv => (lhs; whnf)) ?_ | refine r_nil ?_ | refine q_then ?_ | refine wp_block_seq ?_ | refine wp_skip ?_ | refine r_subI rfl rfl (by omega) (by omega) ?_ | refine r_max rfl rfl ?_)
    rw [hmax]
    repeat (first | refine r_sliceS_low cut rfl rfl rfl (by omega) ?_)
    rw [← hch]
    refine r_call (atoi_c hchne hchd (by omega)) rfl ?_
    rintro v2 w2 ⟨rfl, k2⟩
    repeat (first | refine wp_seq_region ?_ | refine wp_region ?_ | refine r_move (by conv => (lhs; whnf)) ?_ | refine r_assign (by conv => (lhs; whnf)) ?_ | refine r_nil ?_ | refine r_extract rfl rfl ?_ | refine r_conv rfl (wrap_u32 (by omega) (by omega)) ?_)
    refine r_lit1 (by conv => (lhs; whnf)) rfl ?_
    intro w3 g k3 hg hgs
    refine r_append1 (by conv => (lhs; whnf)) (own_to (own_to ho k2) k3) rfl hg (by omega) rfl (fun u hu => by rw [List.mem_singleton.1 hu]; rfl) (by unfold maxLen; omega) (by omega) (by have := k1.size; have := k2.size; have := k3.size; omega) ?_
    intro v4 w4 ho4 k4
    have hlen : (L ++ [digV ch]).length = L.length + 1 := by rw [List.length_append]; rfl
    repeat (first | refine r_sliceS_high cut rfl rfl rfl (by omega) ?_ | refine wp_region ?_ | refine r_move (by conv => (lhs; whnf)) ?_ | refine r_assign (by conv => (lhs; whnf)) ?_ | refine r_nil ?_ | refine q_then ?_ | refine q_block ?_)
    refine ⟨by (repeat (first | refine agree_upd rfl ?_ | exact agree_over | refine agree_sub rfl ?_ | exact agree_refl | refine agree_base rfl ?_ | refine agree_base' rfl ?_)), cut, by omega, L ++ [digV ch], v4, by omega, ?_, rfl, by rw [hlen]; omega, by rw [hlen]; omega, ?_, hLd.append (Digs.cons hdv9 digs_nil), ?_, by simpa using ho4⟩
    · show strV ((s.take k).take cut) = _
      rw [List.take_take, Nat.min_eq_left (by omega)]
    · rw [hsd, digV_append, hval, nval_snoc, List.length_drop, show s.length - k = 9 * L.length by have := hcnt (by omega); omega, ← pow_nine, Nat.mul_comm (digV ch)]
      omega
    · exact Keeps.later ((k1.trans k2).trans k3) k4 fun i hi _ e => by have := (ho.lt i e.symm).1; omega
  · obtain rfl : k = 0 := by omega
    rw [List.drop_zero] at hval
    repeat (first | refine wp_seq_region ?_ | refine wp_region ?_ | refine r_move (by conv => (lhs; whnf)) ?_ | refine wp_exit ?_)
    refine r_call (trim_c (S := S) (v := v) (l := L) (Row.of_own ho hS) hLd) rfl ?_
    rintro v2 w2 ⟨rfl, h2⟩
    repeat (first | refine r_assign (by conv => (lhs; whnf)) ?_ | refine r_nil ?_ | refine q_then ?_ | refine wp_ret ?_)
    refine end_tmp rfl (by conv => (lhs; whnf)) ⟨k1, ?_⟩
    rw [hval]
    exact h2
theorem has_neg (s : List UInt8) : Lib.hasPrefix s [45] = tst (NegS s) := by
  unfold Lib.hasPrefix NegS
  cases s with
  | nil => rw [tst_false (by simp)]; rfl
  | cons c r =>
    by_cases h : c = 45
    · subst h
      rw [tst_true (by rfl)]
      simp [List.isPrefixOf]
    · rw [tst_false (by simpa using h)]
      simp [List.isPrefixOf]
      exact fun e => h e.symm
theorem trim_neg (s : List UInt8) : Lib.trimPrefix s [45] = Dgs s := by
  unfold Lib.trimPrefix Dgs
  rw [has_neg]
  by_cases h : NegS s
  · rw [tst_true h, if_pos h]; rfl
  · rw [tst_false h, if_neg h]; rfl
theorem cutPrefix_c {w : World} {s : List UInt8} :
    Gives Tryz.prog 112 [strV s, strV [45]] w fun v' w' => v' = .tuple #[strV (Dgs s), .bool (tst (NegS s))] ∧ w' = w :=
  Calls.mono (Tryz.strings_CutPrefix ⟨s.toArray⟩ ⟨[45].toArray⟩ w) fun e w' ⟨he, hw⟩ => ⟨_, he, by
    show Value.tuple #[.string ⟨(Lib.trimPrefix s [45]).toArray⟩, .bool (Lib.hasPrefix s [45])] = _
    rw [trim_neg, has_neg], hw⟩
set_option maxHeartbeats 1000000 in
theorem iparse_c {S : Nat → Prop} {w : World} {s : List UInt8} (hS : Up S w) (hl : s.length ≤ 140737488351232) :
    Gives Tryz.prog 54 [strV s] w fun v' w' => Ext w w' ∧
      ((35000 < s.length ∧ v' = .tuple #[.agg #[.bool false, .slice none 0 0], .int .i64 2]) ∨ (s.length ≤ 35000 ∧ (∀ z, s ≠ Lib.itoa z) ∧ v' = .tuple #[.agg #[.bool false, .slice none 0 0], .int .i64 10]) ∨ (s.length ≤ 35000 ∧ ∃ z, s = Lib.itoa z ∧ ITried S w' v' z)) := by
  have hDl := dgs_le s
  refine gives_of Tryz.func54 rfl rfl rfl ?_
  repeat (first | refine wp_seq_region ?_ | refine wp_region ?_)
  refine r_alloc (cs := [.bool false, .slice none 0 0]) rfl ?_
  intro w1 g k1 hg hgs
  repeat (first | refine r_lenS rfl ?_ | refine wp_seq_region ?_ | refine wp_seq_seq ?_ | refine wp_region ?_ | refine r_move (by conv => (lhs; whnf)) ?_ | refine r_assign (by conv => (lhs; whnf)) ?_ | refine r_nil ?_ | refine q_then ?_ | refine r_gtr rfl rfl ?_)
  try refine wp_seq_cond ?_
  refine wp_cond_dec rfl ?_ ?_ <;> intro hlong
  · repeat (first | refine wp_seq_region ?_ | refine wp_region ?_)
    refine r_build0 (cs := [.bool false, .slice none 0 0]) rfl ?_
    refine r_store2 rfl (by conv => (lhs; whnf)) hg rfl rfl ?_
    intro w2 k2 hg2
    repeat (first | refine r_assign (by conv => (lhs; whnf)) ?_ | refine r_nil ?_ | refine q_then ?_ | refine wp_ret ?_ | refine q_then_ret ?_)
    exact end2 rfl (resV_agg (by conv => (lhs; whnf)) hg2 rfl) (resV_tmp (by conv => (lhs; whnf))) ⟨k1.past k2 hgs, .inl ⟨by omega, rfl⟩⟩
  · repeat (first | refine wp_seq_region ?_ | refine wp_region ?_ | refine r_move (by conv => (lhs; whnf)) ?_ | refine wp_skip ?_)
    refine r_call cutPrefix_c rfl ?_
    rintro v2 w2 ⟨rfl, rfl⟩
    repeat (first | refine wp_seq_region ?_ | refine wp_seq_seq ?_ | refine wp_region ?_ | refine r_move (by conv => (lhs; whnf)) ?_ | refine r_assign (by conv => (lhs; whnf)) ?_ | refine r_nil ?_ | refine r_extract rfl rfl ?_)
    refine r_call (isDigits_c (s := Dgs s) (by omega)) rfl ?_
    rintro v3 w3 ⟨rfl, k3⟩
    repeat (first | refine r_move (by conv => (lhs; whnf)) ?_ | refine r_notB rfl ?_)
    have hbad : (¬ DecL (Dgs s) ∨ (NegS s ∧ Dgs s = [48])) ↔ ∀ z, s ≠ Lib.itoa z := by
      constructor
      · rintro (h | ⟨h1, h2⟩) z hz
        · exact h ((num_iff s).1 ⟨z, hz⟩).1
        · exact ((num_iff s).1 ⟨z, hz⟩).2 h1 (by rw [h2]; rfl)
      · intro h
        by_cases hd : DecL (Dgs s)
        · right
          have h2 : ¬ (NegS s → (Dgs s).head? ≠ some 48) := fun h2 => h _ (num_val hd h2)
          by_cases hn : NegS s
          · refine ⟨hn, ?_⟩
            have h3 : (Dgs s).head? = some 48 := Classical.byContradiction fun h3 => h2 fun _ => h3
            have h4 := hd.2.2 h3
            match hds : Dgs s, h3, h4 with
            | [c], h3, _ => simp at h3; rw [h3]
          · exact absurd (fun h3 => absurd h3 hn) h2
        · exact .inl hd
    refine r_mid [(18, 24)] (fun ρ w' => ρ 24 = .bool (tst (∀ z, s ≠ Lib.itoa z)) ∧ w' = w3) ?_ ?_
    · refine r_guard_split rfl rfl ?_ ?_ <;> intro hnd
      · repeat (first | refine r_nil ?_ | refine q_then ?_ | refine r_guard_skip rfl rfl rfl ?_ | refine r_guard_undef rfl rfl ?_ | refine r_pick_true rfl (by conv => (lhs; whnf)) ?_)
        exact ⟨by (repeat (first | refine agree_upd rfl ?_ | exact agree_over | refine agree_sub rfl ?_ | exact agree_refl | refine agree_base rfl ?_ | refine agree_base' rfl ?_)), by rw [tst_true (hbad.1 (Or.inl hnd))]; rfl, rfl⟩
      · repeat (first | refine r_move (by conv => (lhs; whnf)) ?_ | refine r_guard_run rfl rfl ?_)
        refine r_guard_split rfl rfl ?_ ?_ <;> intro hn
        · repeat (first | refine r_move (by conv => (lhs; whnf)) ?_ | refine r_guard_run rfl rfl ?_)
          refine r_eqlS (b := [48]) rfl rfl ?_
          repeat (first | refine r_nil ?_ | refine q_then ?_ | refine r_guard_run rfl rfl ?_ | refine r_pick_true rfl (by conv => (lhs; whnf)) ?_ | refine r_pick_false rfl (by conv => (lhs; whnf)) ?_)
          refine ⟨by (repeat (first | refine agree_upd rfl ?_ | exact agree_over | refine agree_sub rfl ?_ | exact agree_refl | refine agree_base rfl ?_ | refine agree_base' rfl ?_)), congrArg Value.bool (tst_congr ?_), rfl⟩
          rw [← hbad]
          exact ⟨fun h => Or.inr ⟨hn, h⟩, fun h => h.elim (fun h => absurd h hnd) fun h => h.2⟩
        · repeat (first | refine r_nil ?_ | refine q_then ?_ | refine r_guard_run rfl rfl ?_ | refine r_guard_skip rfl rfl rfl ?_ | refine r_pick_false rfl (by conv => (lhs; whnf)) ?_)
          refine ⟨by (repeat (first | refine agree_upd rfl ?_ | exact agree_over | refine agree_sub rfl ?_ | exact agree_refl | refine agree_base rfl ?_ | refine agree_base' rfl ?_)), ?_, rfl⟩
          rw [tst_false (show ¬ ∀ z, s ≠ Lib.itoa z from fun h => (hbad.2 h).elim hnd fun h => hn h.1)]
          rfl
    rintro u4 w4 ⟨h24, rfl⟩
    refine wp_learn 24 h24 ?_
    clear h24
    have hg4 := hg.to k3
    skip
    try refine wp_seq_cond ?_
    refine wp_cond_dec rfl ?_ ?_ <;> intro hb
    · repeat (first | refine wp_seq_region ?_ | refine wp_region ?_)
      refine r_build0 (cs := [.bool false, .slice none 0 0]) rfl ?_
      refine r_store2 rfl (by conv => (lhs; whnf)) hg4 rfl rfl ?_
      intro w5 k5 hg5
      repeat (first | refine r_assign (by conv => (lhs; whnf)) ?_ | refine r_nil ?_ | refine q_then ?_ | refine wp_ret ?_ | refine q_then_ret ?_)
      exact end2 rfl (resV_agg (by conv => (lhs; whnf)) hg5 rfl) (resV_tmp (by conv => (lhs; whnf))) ⟨(k1.trans k3).past k5 hgs, .inr (.inl ⟨by omega, hb, rfl⟩)⟩
    · have hgood : DecL (Dgs s) ∧ (NegS s → (Dgs s).head? ≠ some 48) := by
        refine (num_iff s).1 (Classical.byContradiction fun h => hb fun z hz => h ⟨z, hz⟩)
      have hS4 := hS.to (k1.trans k3)
      repeat (first | refine wp_seq_region ?_ | refine wp_region ?_ | refine r_move (by conv => (lhs; whnf)) ?_ | refine wp_skip ?_)
      refine r_call (parsed_c hS4 hgood.1.2.1 (by omega)) rfl ?_
      rintro v5 w5 ⟨k5, h5⟩
      refine r_call (signed_c (p := NegS s) (n := digV (Dgs s)) (numV s) h5 ?_ ?_) rfl ?_
      · unfold numV; split <;> omega
      · unfold numV
        split
        · rename_i h; exact ⟨fun h2 => ⟨h, by omega⟩, fun h2 => by omega⟩
        · rename_i h; exact ⟨fun h2 => by omega, fun h2 => absurd h2.1 h⟩
      rintro v6 w6 ⟨k6, h6⟩
      repeat (first | refine r_func ?_)
      refine r_call (iattempt_c ((hS4.to k5).to k6) h6) rfl ?_
      rintro v7 w7 ⟨k7, r, e, rfl, hor⟩
      repeat (first | refine r_extract rfl rfl ?_)
      have k' := (((k1.trans k3).trans k5).trans k6).trans k7
      have hg7 := ((hg4.to k5).to k6).to k7
      rcases hor with ⟨hf, rfl, m, rfl, hm⟩ | ⟨hf, rfl, m, rfl, hm⟩
      · refine r_store2 rfl rfl hg7 rfl hm.one ?_
        intro w8 k8 hg8
        repeat (first | refine r_assign (by conv => (lhs; whnf)) ?_ | refine r_nil ?_ | refine q_then ?_ | refine wp_ret ?_)
        exact end2 rfl (resV_agg (by conv => (lhs; whnf)) hg8 rfl) (resV_tmp (by conv => (lhs; whnf))) ⟨Keeps.past k' k8 hgs, .inr (.inr ⟨by omega, _, num_val hgood.1 hgood.2, _, _, rfl, .inl ⟨hf, rfl, m, rfl, hm.wrT k8 hg7 (by decide)⟩⟩)⟩
      · refine r_store2 rfl rfl hg7 rfl hm.one ?_
        intro w8 k8 hg8
        repeat (first | refine r_assign (by conv => (lhs; whnf)) ?_ | refine r_nil ?_ | refine q_then ?_ | refine wp_ret ?_)
        exact end2 rfl (resV_agg (by conv => (lhs; whnf)) hg8 rfl) (resV_tmp (by conv => (lhs; whnf))) ⟨Keeps.past k' k8 hgs, .inr (.inr ⟨by omega, _, num_val hgood.1 hgood.2, _, _, rfl, .inr ⟨hf, rfl, m, rfl, hm.wrT k8 hg7 (by decide)⟩⟩)⟩
end Go.Proofs.YtpmnjjmngogkkaaGreatDoor
end

section
set_option linter.unusedVariables false
set_option linter.unusedSimpArgs false
namespace Go.Proofs.YtpmnjjmngogkkaaGreatDoor
open Go Go.RowKit
theorem cut_idx (l : List UInt8) (c : UInt8) : (Lib.indexByte l c = -1 ∧ c ∉ l) ∨ ∃ a b, l = a ++ c :: b ∧ c ∉ a ∧ Lib.indexByte l c = (a.length : Int) := by
  induction l with
  | nil => exact .inl ⟨rfl, by simp⟩
  | cons x l ih =>
    unfold Lib.indexByte
    by_cases hx : x = c
    · subst hx
      exact .inr ⟨[], l, rfl, by simp, by simp⟩
    · have hb : (x == c) = false := by simpa using hx
      rcases ih with ⟨h1, h2⟩ | ⟨a, b, rfl, h2, h3⟩
      · refine .inl ⟨by simp [hb, h1], ?_⟩
        intro h
        rcases List.mem_cons.1 h with h | h
        · exact hx h.symm
        · exact h2 h
      · refine .inr ⟨x :: a, b, rfl, ?_, ?_⟩
        · intro h
          rcases List.mem_cons.1 h with h | h
          · exact hx h.symm
          · exact h2 h
        · rw [h3]
          have : ((a.length : Int) == -1) = false := by simp
          simp [hb, this]
theorem r_lenE {P : Program} {n : Nat} {Q : Post} {ρ : Fr} {w : World} {all rest : List Oper} {d : Tmp} {ty : TypeId} {pos : String} {aft : Array Edge} {t : TypeId} [st : StrT P t] {x : Operand} {l : List UInt8} (m : Int) (hv : ev ρ x = strV l) (hm : (l.length : Int) = m)
    (h : WpR P n all Q rest (upd ρ d (.int .i64 m)) w) : WpR P n all Q (⟨some d, .call ⟨.builtin .len, #[x], #[t]⟩, ty, pos, aft, none⟩ :: rest) ρ w := r_lenS hv (by rw [hm]; exact h)
theorem indexByte_c {w : World} {s : List UInt8} :
    Gives Tryz.prog 208 [strV s, .int .u8 47] w fun v' w' => v' = .int .i64 (Lib.indexByte s 47) ∧ w' = w :=
  Calls.mono (Tryz.stringslite_IndexByte ⟨s.toArray⟩ 47 w) fun e w' ⟨he, hw⟩ => ⟨_, he, rfl, hw⟩
theorem sindex_c {w : World} {s : List UInt8} (hl : s.length ≤ 9223372036854775806) :
    Gives Tryz.prog 186 [strV s, strV [47]] w fun v' w' => v' = .int .i64 (Lib.indexByte s 47) ∧ w' = w := by
  refine gives_of Tryz.func186 rfl rfl rfl ?_
  repeat (first | refine r_lenE 1 rfl rfl ?_ | refine wp_seq_region ?_ | refine wp_seq_bseq ?_ | refine wp_region ?_ | refine r_move (by conv => (lhs; whnf)) ?_ | refine r_assign (by conv => (lhs; whnf)) ?_ | refine r_nil ?_ | refine wp_block_seq ?_ | refine r_guard_run rfl rfl ?_ | refine r_eql rfl rfl ?_ | refine r_guard_no rfl rfl (by omega) ?_)
  refine r_eqlS (a := [47]) (b := s) rfl rfl ?_
  repeat (first | refine r_assign (by conv => (lhs; whnf)) ?_ | refine r_nil ?_ | refine q_then ?_ | refine r_pick_false rfl (by conv => (lhs; whnf)) ?_)
  try refine wp_seq_cond ?_
  refine wp_cond_dec rfl ?_ ?_ <;> intro hc
  · have h47 : s = [47] := by simpa using hc.symm
    subst h47
    repeat (first | refine wp_seq_region ?_ | refine wp_region ?_ | refine r_assign (by conv => (lhs; whnf)) ?_ | refine r_nil ?_ | refine q_then ?_ | refine wp_ret ?_ | refine q_then_ret ?_ | refine q_block_ret ?_)
    exact end_tmp rfl (by conv => (lhs; whnf)) ⟨by rw [show Lib.indexByte [47] 47 = 0 from by simp [Lib.indexByte]], rfl⟩
  · repeat (first | refine r_indexS 0 rfl rfl rfl (c := 47) rfl ?_ | refine wp_seq_region ?_ | refine wp_region ?_ | refine r_move (by conv => (lhs; whnf)) ?_ | refine r_assign (by conv => (lhs; whnf)) ?_ | refine r_nil ?_ | refine q_then ?_ | refine r_eql rfl rfl ?_ | refine wp_cond_yes rfl (by omega) ?_)
    refine r_call (indexByte_c (s := s)) rfl ?_
    rintro v2 w2 ⟨rfl, rfl⟩
    repeat (first | refine r_assign (by conv => (lhs; whnf)) ?_ | refine r_nil ?_ | refine q_then ?_ | refine wp_ret ?_ | refine q_then_ret ?_ | refine q_block_ret ?_)
    exact end_tmp rfl (by conv => (lhs; whnf)) ⟨rfl, rfl⟩
/-- What a cut gives. -/
def CutR (v : Value) (s : List UInt8) : Prop := ((47 : UInt8) ∉ s ∧ v = .tuple #[strV s, strV [], .bool false]) ∨ ∃ a b, s = a ++ 47 :: b ∧ (47 : UInt8) ∉ a ∧ v = .tuple #[strV a, strV b, .bool true]
theorem slcut_c {w : World} {s : List UInt8} (hl : s.length ≤ 9223372036854775806) :
    Gives Tryz.prog 153 [strV s, strV [47]] w fun v' w' => Ext w w' ∧ CutR v' s := by
  refine gives_of Tryz.func153 rfl rfl rfl ?_
  repeat (first | refine wp_seq_region ?_ | refine wp_seq_seq ?_ | refine wp_region ?_ | refine r_move (by conv => (lhs; whnf)) ?_ | refine r_assign (by conv => (lhs; whnf)) ?_ | refine r_nil ?_)
  refine r_call (sindex_c hl) rfl ?_
  rintro v1 w1 ⟨rfl, rfl⟩
  repeat (first | refine wp_seq_region ?_ | refine wp_region ?_ | refine r_move (by conv => (lhs; whnf)) ?_ | refine r_assign (by conv => (lhs; whnf)) ?_ | refine r_nil ?_ | refine q_then ?_ | refine r_geq rfl rfl ?_)
  rcases cut_idx s 47 with ⟨h1, h2⟩ | ⟨a, b, rfl, h2, h3⟩
  · rw [h1]
    repeat (first | refine wp_seq_region ?_ | refine wp_region ?_ | refine r_move (by conv => (lhs; whnf)) ?_ | refine r_assign (by conv => (lhs; whnf)) ?_ | refine r_nil ?_ | refine q_then ?_ | refine wp_ret ?_ | refine wp_skip ?_ | refine wp_cond_no rfl (by omega) ?_)
    exact end3 rfl (resV_tmp (by conv => (lhs; whnf))) (resV_tmp (by conv => (lhs; whnf))) (resV_tmp (by conv => (lhs; whnf))) ⟨.refl, .inl ⟨h2, rfl⟩⟩
  · rw [h3]
    have hla : a.length + 1 ≤ (a ++ 47 :: b).length := by simp
    repeat (first | refine wp_seq_region ?_ | refine wp_cond_yes rfl (by omega) ?_)
    refine wp_drawn 10 (by kernel_rfl) (by kernel_rfl) ?_
    apply ob_step
    · intro x w1 k1 hd
      refine r_move (by conv => (lhs; whnf)) ?_
      refine r_nil ?_
      exact ob_eq
    apply ob_step
    · intro x w1 k1 hd
      refine r_move (by conv => (lhs; whnf)) ?_
      refine r_nil ?_
      exact ob_eq
    apply ob_step
    · intro x w1 k1 hd
      refine r_sliceS_high a.length rfl rfl rfl (by omega) ?_
      refine r_nil ?_
      exact ob_eq
    apply ob_step
    · intro x w1 k1 hd
      refine r_move (by conv => (lhs; whnf)) ?_
      refine r_nil ?_
      exact ob_eq
    apply ob_step
    · intro x w1 k1 hd
      refine r_move (by conv => (lhs; whnf)) ?_
      refine r_nil ?_
      exact ob_eq
    apply ob_step
    · intro x w1 k1 hd
      refine r_move (by conv => (lhs; whnf)) ?_
      refine r_nil ?_
      exact ob_eq
    apply ob_step
    · intro x w1 k1 hd
      refine r_lenE 1 rfl rfl ?_
      refine r_nil ?_
      exact ob_eq
    apply ob_step
    · intro x w1 k1 hd
      refine r_addI rfl rfl (by omega) (by omega) ?_
      refine r_nil ?_
      exact ob_eq
    apply ob_step
    · intro x w1 k1 hd
      refine r_sliceS_low (a.length + 1) rfl rfl rfl (by omega) ?_
      refine r_nil ?_
      exact ob_eq
    apply ob_step
    · intro x w1 k1 hd
      refine r_assign (by conv => (lhs; whnf)) ?_
      refine r_nil ?_
      exact ob_eq
    refine ob_nil (ob_end ?_)
    intro x w2 k2 _
    repeat (first | refine r_assign (by conv => (lhs; whnf)) ?_ | refine r_nil ?_ | refine q_then ?_ | refine wp_ret ?_ | refine q_then_ret ?_)
    refine end3 rfl (resV_tmp (by conv => (lhs; whnf))) (resV_tmp (by conv => (lhs; whnf))) (resV_tmp (by conv => (lhs; whnf))) ⟨k2, .inr ⟨a, b, rfl, h2, ?_⟩⟩
    rw [List.take_left' rfl, show a ++ 47 :: b = (a ++ [47]) ++ b by simp, List.drop_left' (by simp)]
theorem cut_c {w : World} {s : List UInt8} (hl : s.length ≤ 9223372036854775806) :
    Gives Tryz.prog 111 [strV s, strV [47]] w fun v' w' => Ext w w' ∧ CutR v' s := by
  refine gives_of Tryz.func111 rfl rfl rfl ?_
  repeat (first | refine wp_seq_region ?_ | refine wp_region ?_ | refine r_move (by conv => (lhs; whnf)) ?_ | refine r_assign (by conv => (lhs; whnf)) ?_ | refine r_nil ?_)
  refine r_call (slcut_c hl) rfl ?_
  rintro v1 w1 ⟨k1, h1⟩
  rcases h1 with ⟨h1, rfl⟩ | ⟨a, b, h1, h2, rfl⟩
  · repeat (first | refine r_assign (by conv => (lhs; whnf)) ?_ | refine r_nil ?_ | refine q_then ?_ | refine wp_ret ?_ | refine r_extract rfl rfl ?_)
    exact end3 rfl (resV_tmp (by conv => (lhs; whnf))) (resV_tmp (by conv => (lhs; whnf))) (resV_tmp (by conv => (lhs; whnf))) ⟨k1, .inl ⟨h1, rfl⟩⟩
  · repeat (first | refine r_assign (by conv => (lhs; whnf)) ?_ | refine r_nil ?_ | refine q_then ?_ | refine wp_ret ?_ | refine r_extract rfl rfl ?_)
    exact end3 rfl (resV_tmp (by conv => (lhs; whnf))) (resV_tmp (by conv => (lhs; whnf))) (resV_tmp (by conv => (lhs; whnf))) ⟨k1, .inr ⟨a, b, h1, h2, rfl⟩⟩
end Go.Proofs.YtpmnjjmngogkkaaGreatDoor
end

section
set_option linter.unusedVariables false
set_option linter.unusedSimpArgs false
namespace Go.Proofs.YtpmnjjmngogkkaaGreatDoor
open Go Go.RowKit
/-- A numerator and a denominator that is kept (0: none), as read off a string. -/
def Parts (s : List UInt8) (n : Int) (d : Nat) : Prop :=
  (d = 0 ∧ (47 : UInt8) ∉ s ∧ s = Lib.itoa n) ∨ (2 ≤ d ∧ ∃ a, (47 : UInt8) ∉ a ∧ s = a ++ 47 :: Lib.decDigits d ∧ a = Lib.itoa n)
def denK (d : Nat) : Nat := if d = 0 then 1 else d
theorem parts_good {s : List UInt8} {n : Int} {d : Nat} (h : Parts s n d) (hg : Nat.gcd (denK d) n.natAbs = 1) : ∃ q : Rat, q.num = n ∧ bot q = d ∧ s = rstr q := by
  unfold denK at hg
  rcases h with ⟨rfl, h1, h2⟩ | ⟨h0, a, h1, rfl, h2⟩
  · exact ⟨(n : Rat), rfl, bot_int n, (rstr_none h1 _).2 ⟨rfl, h2⟩⟩
  · rw [if_neg (by omega), Nat.gcd_comm] at hg
    obtain ⟨q, h3, h4⟩ := rat_of n (d := d) (by omega) hg
    refine ⟨q, h3, ?_, (rstr_cut h1 q).2 ⟨by omega, by rw [h3]; exact h2, by rw [h4]⟩⟩
    unfold bot
    rw [if_neg (by omega), h4]
theorem parts_bad {s : List UInt8} {n : Int} {d : Nat} (h : Parts s n d) (hg : Nat.gcd (denK d) n.natAbs ≠ 1) : ∀ q, s ≠ rstr q := fun q hq => by
  unfold denK at hg
  rcases h with ⟨rfl, h1, h2⟩ | ⟨h0, a, h1, rfl, h2⟩
  · rw [if_pos rfl, Nat.gcd_one_left] at hg
    exact hg rfl
  · rw [if_neg (by omega), Nat.gcd_comm] at hg
    obtain ⟨h3, h4, h5⟩ := (rstr_cut h1 q).1 hq
    have h6 := congrArg digV h5
    rw [digV_dec, digV_dec] at h6
    rw [h2] at h4
    have h7 := itoa_inj h4
    subst h6 h7
    exact hg (rat_gcd q)
theorem dl_of_lt {n j k : Nat} (h : n < 10 ^ j) (hj : j ≤ 9 * k) : dl n ≤ k := by
  refine dl_le ?_
  rw [pow_nine]
  exact Nat.lt_of_lt_of_le h (pow_mono_10 hj)
theorem zl_itoaP {z : Int} {s : List UInt8} (h : s = Lib.itoa z) {k : Nat} (hl : s.length ≤ 9 * k) : zl z ≤ k := dl_digits (Nat.le_trans (abs_digits z) (h ▸ hl))
theorem den0_c {S : Nat → Prop} {w : World} {x m b : Value} {d : Nat} (hS : Up S w) (h1 : x.oneCell' = true) (h2 : m.oneCell' = true) (hb : NatV S 127 .u32 w b d) :
    Gives Tryz.prog 115 [.agg #[x, m, b]] w fun v' w' => Ext w w' ∧ NatV S 127 .u32 w' v' (denK d) := by
  have hl := @dl_eq_zero d
  unfold dl at hl
  unfold denK
  refine gives_of Tryz.func115 rfl rfl rfl ?_
  have k : Ext w w := .refl
  repeat (first | refine wp_seq_region ?_ | refine wp_region ?_)
  refine r_box (cs := [x, m, b]) (by conv => (lhs; whnf)) rfl ?_
  intro w_1 g k_1 hg hs_1
  have hsg : w.heap.size ≤ g := Nat.le_trans k.size hs_1
  clear hs_1
  replace hS := hS.to k_1
  replace hb := hb.to k_1
  replace k := k.trans k_1
  clear k_1
  repeat (first | refine r_load_blk rfl hg rfl ?_ | refine wp_seq_region ?_ | refine wp_seq_seq ?_ | refine wp_region ?_ | refine r_assign (by conv => (lhs; whnf)) ?_ | refine r_nil ?_ | refine q_then ?_ | refine r_len (by conv => (lhs; whnf)) (by assumption) ?_ | refine r_eql rfl rfl ?_ | refine r_field rfl ?_)
  try refine wp_seq_cond ?_
  refine wp_cond_dec rfl ?_ ?_ <;> intro hc
  · repeat (first | refine wp_seq_region ?_ | refine wp_region ?_)
    refine r_call (one_c hS) rfl ?_
    rintro v_2 w_2 ⟨k_2, h3⟩
    replace hS := hS.to k_2
    replace hb := hb.to k_2
    replace hg := hg.to k_2
    replace k := k.trans k_2
    clear k_2
    repeat (first | refine r_assign (by conv => (lhs; whnf)) ?_ | refine r_nil ?_ | refine q_then ?_ | refine wp_ret ?_ | refine q_then_ret ?_)
    refine end_tmp rfl (by conv => (lhs; whnf)) ⟨k, ?_⟩
    rw [if_pos (hl.1 (by omega))]
    exact h3
  · repeat (first | refine r_load_blk rfl hg rfl ?_ | refine wp_seq_region ?_ | refine wp_region ?_ | refine r_assign (by conv => (lhs; whnf)) ?_ | refine r_nil ?_ | refine q_then ?_ | refine wp_ret ?_ | refine wp_skip ?_ | refine r_field rfl ?_)
    refine end_tmp rfl (by conv => (lhs; whnf)) ⟨k, ?_⟩
    rw [if_neg (fun h => hc (by have := hl.2 h; omega))]
    exact hb
theorem isOne_e {S : Nat → Prop} {w : World} {va : Value} {a : Nat} (ha : NatV S 127 .u32 w va a) :
    Gives Tryz.prog 116 [va] w fun v' w' => v' = .bool (tst (a = 1)) ∧ Ext w w' := (isOne_c ha).mono fun _ _ ⟨h, e⟩ => ⟨h, e ▸ .refl⟩
theorem bad_iff (s : List UInt8) : (¬ DecL (Dgs s) ∨ (NegS s ∧ Dgs s = [48])) ↔ ∀ z, s ≠ Lib.itoa z := by
  constructor
  · rintro (h | ⟨h1, h2⟩) z hz
    · exact h ((num_iff s).1 ⟨z, hz⟩).1
    · exact ((num_iff s).1 ⟨z, hz⟩).2 h1 (by rw [h2]; rfl)
  · intro h
    by_cases hd : DecL (Dgs s)
    · right
      have h2 : ¬ (NegS s → (Dgs s).head? ≠ some 48) := fun h2 => h _ (num_val hd h2)
      by_cases hn : NegS s
      · refine ⟨hn, ?_⟩
        have h3 : (Dgs s).head? = some 48 := Classical.byContradiction fun h3 => h2 fun _ => h3
        have h4 := hd.2.2 h3
        match hds : Dgs s, h3, h4 with
        | [c], h3, _ => simp at h3; rw [h3]
      · exact absurd (fun h3 => absurd h3 hn) h2
    · exact .inl hd
theorem dec_two {b : List UInt8} (h : DecL b) (h0 : b ≠ [48]) (h1 : b ≠ [49]) : 2 ≤ digV b := by
  have h2 := dec_digV h
  rcases Nat.lt_or_ge (digV b) 2 with h3 | h3
  · exfalso
    have h4 : digV b = 0 ∨ digV b = 1 := by omega
    rcases h4 with h4 | h4
    · rw [h4, Lib.decDigits_one (by decide)] at h2; exact h0 h2.symm
    · rw [h4, Lib.decDigits_one (by decide)] at h2; exact h1 h2.symm
  · exact h3
theorem dec_two' {b : List UInt8} (h : ¬ (DecL b ∧ b ≠ [48] ∧ b ≠ [49])) {d : Nat} (hd : 2 ≤ d) : b ≠ Lib.decDigits d := by
  rintro rfl
  refine h ⟨decL_dec d, fun e => ?_, fun e => ?_⟩
  · have := congrArg digV e; rw [digV_dec, show digV [48] = 0 from rfl] at this; omega
  · have := congrArg digV e; rw [digV_dec, show digV [49] = 1 from rfl] at this; omega
theorem numV_parts (s : List UInt8) : (numV s).natAbs = digV (Dgs s) ∧ (numV s < 0 ↔ NegS s ∧ 0 < digV (Dgs s)) := by
  unfold numV
  split
  · rename_i h; exact ⟨by omega, ⟨fun h2 => ⟨h, by omega⟩, fun h2 => by omega⟩⟩
  · rename_i h; exact ⟨by omega, ⟨fun h2 => by omega, fun h2 => absurd h2.1 h⟩⟩
/-- What stands behind the test of the form. -/
def Form2 (s a b : List UInt8) (has : Bool) : Prop := (has = false ∧ (47 : UInt8) ∉ s ∧ a = s ∧ b = []) ∨ (has = true ∧ s = a ++ 47 :: b ∧ (47 : UInt8) ∉ a)
theorem form_bad {s a b : List UInt8} {has : Bool} (h : Form2 s a b has) (hb : (∀ z, a ≠ Lib.itoa z) ∨ (has = true ∧ ¬ (DecL b ∧ b ≠ [48] ∧ b ≠ [49]))) : ∀ q, s ≠ rstr q := fun q hq => by
  rcases h with ⟨rfl, h1, rfl, rfl⟩ | ⟨rfl, rfl, h1⟩
  · rcases hb with hb | ⟨hb, _⟩
    · exact hb _ ((rstr_none h1 q).1 hq).2
    · cases hb
  · obtain ⟨h2, h3, h4⟩ := (rstr_cut h1 q).1 hq
    rcases hb with hb | ⟨_, hb⟩
    · exact hb _ h3
    · have := q.den_pos
      exact dec_two' hb (d := q.den) (by omega) h4
set_option maxHeartbeats 2000000 in
theorem rparse_c {S : Nat → Prop} {w : World} {s : List UInt8} (hS : Up S w) (hl : s.length ≤ 140737488351232) :
    Gives Tryz.prog 53 [strV s] w fun v' w' => Ext w w' ∧
      ((70000 < s.length ∧ v' = .tuple #[.agg #[.bool false, .slice none 0 0, .slice none 0 0], .int .i64 2]) ∨ (s.length ≤ 70000 ∧ (∀ q, s ≠ rstr q) ∧ v' = .tuple #[.agg #[.bool false, .slice none 0 0, .slice none 0 0], .int .i64 10]) ∨ (s.length ≤ 70000 ∧ ∃ q, s = rstr q ∧ Tried S w' v' q)) := by
  refine gives_of Tryz.func53 rfl rfl rfl ?_
  have k : Ext w w := .refl
  repeat (first | refine wp_seq_region ?_ | refine wp_region ?_)
  refine r_alloc (cs := [.bool false, .slice none 0 0, .slice none 0 0]) rfl ?_
  intro w_1 g k_1 hg hs_1
  have hsg : w.heap.size ≤ g := Nat.le_trans k.size hs_1
  clear hs_1
  replace hS := hS.to k_1
  replace k := k.trans k_1
  clear k_1
  repeat (first | refine r_lenS rfl ?_ | refine wp_seq_region ?_ | refine wp_seq_seq ?_ | refine wp_region ?_ | refine r_move (by conv => (lhs; whnf)) ?_ | refine r_assign (by conv => (lhs; whnf)) ?_ | refine r_nil ?_ | refine q_then ?_ | refine r_gtr rfl rfl ?_)
  try refine wp_seq_cond ?_
  refine wp_cond_dec rfl ?_ ?_ <;> intro hlong
  · repeat (first | refine wp_seq_region ?_ | refine wp_region ?_)
    refine r_build0 (cs := [.bool false, .slice none 0 0, .slice none 0 0]) rfl ?_
    refine r_store3 rfl (by conv => (lhs; whnf)) hg rfl rfl rfl rfl ?_
    intro w_2 k_2 h_2
    replace hS := hS.to k_2
    replace k : Ext w w_2 := k.past k_2 hsg
    replace hg := h_2
    clear h_2 k_2
    repeat (first | refine r_assign (by conv => (lhs; whnf)) ?_ | refine r_nil ?_ | refine q_then ?_ | refine wp_ret ?_ | refine q_then_ret ?_)
    exact end2 rfl (resV_agg (by conv => (lhs; whnf)) hg rfl) (resV_tmp (by conv => (lhs; whnf))) ⟨k, .inl ⟨by omega, rfl⟩⟩
  · repeat (first | refine wp_seq_region ?_ | refine wp_region ?_ | refine r_move (by conv => (lhs; whnf)) ?_ | refine wp_skip ?_)
    refine r_call (cut_c (s := s) (by omega)) rfl ?_
    rintro v_2 w_2 ⟨k_2, c1⟩
    replace hS := hS.to k_2
    replace hg := hg.to k_2
    replace k := k.trans k_2
    clear k_2
    obtain ⟨a, b, has, rfl, hf⟩ : ∃ a b has, v_2 = .tuple #[strV a, strV b, .bool has] ∧ Form2 s a b has := by
      rcases c1 with ⟨h1, rfl⟩ | ⟨a, b, rfl, h1, rfl⟩
      · exact ⟨s, [], false, rfl, .inl ⟨rfl, h1, rfl, rfl⟩⟩
      · exact ⟨a, b, true, rfl, .inr ⟨rfl, rfl, h1⟩⟩
    have hal : a.length ≤ 70000 ∧ b.length ≤ 70000 := by
      rcases hf with ⟨_, _, rfl, rfl⟩ | ⟨_, rfl, _⟩
      · exact ⟨by omega, by simp⟩
      · simp at hlong; exact ⟨by omega, by omega⟩
    clear c1
    have hDl := dgs_le a
    repeat (first | refine wp_seq_region ?_ | refine wp_region ?_ | refine r_move (by conv => (lhs; whnf)) ?_ | refine r_assign (by conv => (lhs; whnf)) ?_ | refine r_nil ?_ | refine r_extract rfl rfl ?_)
    refine r_call (cutPrefix_c (s := a)) rfl ?_
    rintro v3 w3 ⟨rfl, rfl⟩
    repeat (first | refine wp_seq_region ?_ | refine wp_seq_seq ?_ | refine wp_region ?_ | refine r_move (by conv => (lhs; whnf)) ?_ | refine r_assign (by conv => (lhs; whnf)) ?_ | refine r_nil ?_ | refine r_extract rfl rfl ?_)
    refine r_call (isDigits_c (s := Dgs a) (by omega)) rfl ?_
    rintro v_3 w_3 ⟨rfl, k_3⟩
    replace hS := hS.to k_3
    replace hg := hg.to k_3
    replace k := k.trans k_3
    clear k_3
    repeat (first | refine r_move (by conv => (lhs; whnf)) ?_ | refine r_notB rfl ?_)
    have hba := bad_iff a
    have hgd : ¬ (∀ z, a ≠ Lib.itoa z) → DecL (Dgs a) := fun hbad => Classical.byContradiction fun h => hbad (hba.1 (.inl h))
    refine r_mid [(27, 50)] (fun ρ w' => ρ 50 = .bool (tst ((∀ z, a ≠ Lib.itoa z) ∨ (has = true ∧ ¬ (DecL b ∧ b ≠ [48] ∧ b ≠ [49])))) ∧ Ext w_3 w') ?_ ?_
    · by_cases hbad : ∀ z, a ≠ Lib.itoa z
      · by_cases hd : DecL (Dgs a)
        · rcases hba.2 hbad with h | ⟨h1, h2⟩
          · exact absurd hd h
          · rw [tst_false (show ¬ ¬ DecL (Dgs a) from fun h => h hd), tst_true h1]
            repeat (first | refine r_move (by conv => (lhs; whnf)) ?_ | refine r_guard_run rfl rfl ?_)
            refine r_eqlS (b := [48]) rfl rfl ?_
            rw [tst_true h2]
            repeat (first | refine r_move (by conv => (lhs; whnf)) ?_ | refine r_nil ?_ | refine q_then ?_ | refine r_guard_run rfl rfl ?_ | refine r_guard_skip rfl rfl rfl ?_ | refine r_guard_undef rfl rfl ?_ | refine r_pick_true rfl (by conv => (lhs; whnf)) ?_ | refine r_pick_false rfl (by conv => (lhs; whnf)) ?_)
            exact ⟨by (repeat (first | refine agree_upd rfl ?_ | exact agree_over | refine agree_sub rfl ?_ | exact agree_refl | refine agree_base rfl ?_ | refine agree_base' rfl ?_)), by rw [tst_true (Or.inl hbad)]; rfl, .refl⟩
        · rw [tst_true hd]
          repeat (first | refine r_move (by conv => (lhs; whnf)) ?_ | refine r_nil ?_ | refine q_then ?_ | refine r_guard_skip rfl rfl rfl ?_ | refine r_guard_undef rfl rfl ?_ | refine r_pick_true rfl (by conv => (lhs; whnf)) ?_)
          exact ⟨by (repeat (first | refine agree_upd rfl ?_ | exact agree_over | refine agree_sub rfl ?_ | exact agree_refl | refine agree_base rfl ?_ | refine agree_base' rfl ?_)), by rw [tst_true (Or.inl hbad)]; rfl, .refl⟩
      · rw [tst_false (show ¬ ¬ DecL (Dgs a) from fun h => h (hgd hbad))]
        by_cases hn : NegS a
        · have h48 : ¬ Dgs a = [48] := fun h => hbad (hba.1 (.inr ⟨hn, h⟩))
          rw [tst_true hn]
          repeat (first | refine r_move (by conv => (lhs; whnf)) ?_ | refine r_guard_run rfl rfl ?_)
          refine r_eqlS (b := [48]) rfl rfl ?_
          rw [tst_false h48]
          cases has
          · repeat (first | refine r_move (by conv => (lhs; whnf)) ?_ | refine r_nil ?_ | refine q_then ?_ | refine r_guard_run rfl rfl ?_ | refine r_guard_skip rfl rfl rfl ?_ | refine r_guard_undef rfl rfl ?_ | refine r_pick_true rfl (by conv => (lhs; whnf)) ?_ | refine r_pick_false rfl (by conv => (lhs; whnf)) ?_)
            exact ⟨by (repeat (first | refine agree_upd rfl ?_ | exact agree_over | refine agree_sub rfl ?_ | exact agree_refl | refine agree_base rfl ?_ | refine agree_base' rfl ?_)), congrArg Value.bool (tst_false (fun h => h.elim hbad fun h2 => Bool.noConfusion h2.1)).symm, .refl⟩
          · repeat (first | refine r_move (by conv => (lhs; whnf)) ?_ | refine r_guard_run rfl rfl ?_ | refine r_pick_true rfl (by conv => (lhs; whnf)) ?_ | refine r_pick_false rfl (by conv => (lhs; whnf)) ?_)
            refine r_call (isDigits_c (s := b) (by omega)) rfl ?_
            rintro v5 w5 ⟨rfl, k5⟩
            by_cases hd : DecL b
            · rw [tst_true hd]
              repeat (first | refine r_move (by conv => (lhs; whnf)) ?_ | refine r_guard_run rfl rfl ?_ | refine r_not rfl ?_)
              refine r_eqlS (b := [48]) rfl rfl ?_
              by_cases h0 : b = [48]
              · rw [tst_true h0]
                repeat (first | refine r_move (by conv => (lhs; whnf)) ?_ | refine r_nil ?_ | refine q_then ?_ | refine r_guard_run rfl rfl ?_ | refine r_guard_skip rfl rfl rfl ?_ | refine r_pick_true rfl (by conv => (lhs; whnf)) ?_ | refine r_pick_false rfl (by conv => (lhs; whnf)) ?_)
                exact ⟨by (repeat (first | refine agree_upd rfl ?_ | exact agree_over | refine agree_sub rfl ?_ | exact agree_refl | refine agree_base rfl ?_ | refine agree_base' rfl ?_)), congrArg Value.bool (tst_true (Or.inr ⟨rfl, fun h => h.2.1 h0⟩)).symm, k5⟩
              · rw [tst_false h0]
                repeat (first | refine r_move (by conv => (lhs; whnf)) ?_ | refine r_guard_run rfl rfl ?_ | refine r_pick_false rfl (by conv => (lhs; whnf)) ?_)
                refine r_eqlS (b := [49]) rfl rfl ?_
                repeat (first | refine r_nil ?_ | refine q_then ?_ | refine r_guard_run rfl rfl ?_ | refine r_pick_true rfl (by conv => (lhs; whnf)) ?_ | refine r_pick_false rfl (by conv => (lhs; whnf)) ?_)
                refine ⟨by (repeat (first | refine agree_upd rfl ?_ | exact agree_over | refine agree_sub rfl ?_ | exact agree_refl | refine agree_base rfl ?_ | refine agree_base' rfl ?_)), congrArg Value.bool (tst_congr ?_), k5⟩
                exact ⟨fun h => Or.inr ⟨rfl, fun h2 => h2.2.2 h⟩, fun h => Classical.byContradiction fun h2 => h.elim hbad fun h => h.2 ⟨hd, h0, h2⟩⟩
            · rw [tst_false hd]
              repeat (first | refine r_move (by conv => (lhs; whnf)) ?_ | refine r_nil ?_ | refine q_then ?_ | refine r_guard_run rfl rfl ?_ | refine r_guard_skip rfl rfl rfl ?_ | refine r_pick_true rfl (by conv => (lhs; whnf)) ?_ | refine r_pick_false rfl (by conv => (lhs; whnf)) ?_ | refine r_not rfl ?_)
              exact ⟨by (repeat (first | refine agree_upd rfl ?_ | exact agree_over | refine agree_sub rfl ?_ | exact agree_refl | refine agree_base rfl ?_ | refine agree_base' rfl ?_)), congrArg Value.bool (tst_true (Or.inr ⟨rfl, fun h => hd h.1⟩)).symm, k5⟩
        · rw [tst_false hn]
          cases has
          · repeat (first | refine r_move (by conv => (lhs; whnf)) ?_ | refine r_nil ?_ | refine q_then ?_ | refine r_guard_run rfl rfl ?_ | refine r_guard_skip rfl rfl rfl ?_ | refine r_guard_undef rfl rfl ?_ | refine r_pick_false rfl (by conv => (lhs; whnf)) ?_)
            exact ⟨by (repeat (first | refine agree_upd rfl ?_ | exact agree_over | refine agree_sub rfl ?_ | exact agree_refl | refine agree_base rfl ?_ | refine agree_base' rfl ?_)), congrArg Value.bool (tst_false (fun h => h.elim hbad fun h2 => Bool.noConfusion h2.1)).symm, .refl⟩
          · repeat (first | refine r_move (by conv => (lhs; whnf)) ?_ | refine r_guard_run rfl rfl ?_ | refine r_guard_skip rfl rfl rfl ?_ | refine r_pick_false rfl (by conv => (lhs; whnf)) ?_)
            refine r_call (isDigits_c (s := b) (by omega)) rfl ?_
            rintro v5 w5 ⟨rfl, k5⟩
            by_cases hd : DecL b
            · rw [tst_true hd]
              repeat (first | refine r_move (by conv => (lhs; whnf)) ?_ | refine r_guard_run rfl rfl ?_ | refine r_not rfl ?_)
              refine r_eqlS (b := [48]) rfl rfl ?_
              by_cases h0 : b = [48]
              · rw [tst_true h0]
                repeat (first | refine r_move (by conv => (lhs; whnf)) ?_ | refine r_nil ?_ | refine q_then ?_ | refine r_guard_run rfl rfl ?_ | refine r_guard_skip rfl rfl rfl ?_ | refine r_pick_true rfl (by conv => (lhs; whnf)) ?_ | refine r_pick_false rfl (by conv => (lhs; whnf)) ?_)
                exact ⟨by (repeat (first | refine agree_upd rfl ?_ | exact agree_over | refine agree_sub rfl ?_ | exact agree_refl | refine agree_base rfl ?_ | refine agree_base' rfl ?_)), congrArg Value.bool (tst_true (Or.inr ⟨rfl, fun h => h.2.1 h0⟩)).symm, k5⟩
              · rw [tst_false h0]
                repeat (first | refine r_move (by conv => (lhs; whnf)) ?_ | refine r_guard_run rfl rfl ?_ | refine r_pick_false rfl (by conv => (lhs; whnf)) ?_)
                refine r_eqlS (b := [49]) rfl rfl ?_
                repeat (first | refine r_nil ?_ | refine q_then ?_ | refine r_guard_run rfl rfl ?_ | refine r_pick_true rfl (by conv => (lhs; whnf)) ?_ | refine r_pick_false rfl (by conv => (lhs; whnf)) ?_)
                refine ⟨by (repeat (first | refine agree_upd rfl ?_ | exact agree_over | refine agree_sub rfl ?_ | exact agree_refl | refine agree_base rfl ?_ | refine agree_base' rfl ?_)), congrArg Value.bool (tst_congr ?_), k5⟩
                exact ⟨fun h => Or.inr ⟨rfl, fun h2 => h2.2.2 h⟩, fun h => Classical.byContradiction fun h2 => h.elim hbad fun h => h.2 ⟨hd, h0, h2⟩⟩
            · rw [tst_false hd]
              repeat (first | refine r_move (by conv => (lhs; whnf)) ?_ | refine r_nil ?_ | refine q_then ?_ | refine r_guard_run rfl rfl ?_ | refine r_guard_skip rfl rfl rfl ?_ | refine r_pick_true rfl (by conv => (lhs; whnf)) ?_ | refine r_pick_false rfl (by conv => (lhs; whnf)) ?_ | refine r_not rfl ?_)
              exact ⟨by (repeat (first | refine agree_upd rfl ?_ | exact agree_over | refine agree_sub rfl ?_ | exact agree_refl | refine agree_base rfl ?_ | refine agree_base' rfl ?_)), congrArg Value.bool (tst_true (Or.inr ⟨rfl, fun h => hd h.1⟩)).symm, k5⟩
    rintro u5 w5 ⟨h50, k5⟩
    refine wp_learn 50 h50 ?_
    clear h50
    replace hS := hS.to k5
    replace hg := hg.to k5
    replace k := k.trans k5
    clear k5
    skip
    refine wp_cond_dec rfl ?_ ?_ <;> intro hb0
    · have hq := form_bad hf hb0
      repeat (first | refine wp_seq_region ?_ | refine wp_region ?_)
      refine r_build0 (cs := [.bool false, .slice none 0 0, .slice none 0 0]) rfl ?_
      refine r_store3 rfl (by conv => (lhs; whnf)) hg rfl rfl rfl rfl ?_
      intro w_5 k_5 h_5
      replace hS := hS.to k_5
      replace k : Ext w w_5 := k.past k_5 hsg
      replace hg := h_5
      clear h_5 k_5
      repeat (first | refine r_assign (by conv => (lhs; whnf)) ?_ | refine r_nil ?_ | refine q_then ?_ | refine wp_ret ?_ | refine q_then_ret ?_)
      exact end2 rfl (resV_agg (by conv => (lhs; whnf)) hg rfl) (resV_tmp (by conv => (lhs; whnf))) ⟨k, .inr (.inl ⟨by omega, hq, rfl⟩)⟩
    · have hbad : ¬ ∀ z, a ≠ Lib.itoa z := fun h => hb0 (.inl h)
      have hb2 : ¬ (has = true ∧ ¬ (DecL b ∧ b ≠ [48] ∧ b ≠ [49])) := fun h => hb0 (.inr h)
      have hgood : DecL (Dgs a) ∧ (NegS a → (Dgs a).head? ≠ some 48) := (num_iff a).1 (Classical.byContradiction fun h => hbad fun z hz => h ⟨z, hz⟩)
      have hav : a = Lib.itoa (numV a) := num_val hgood.1 hgood.2
      obtain ⟨hnv1, hnv2⟩ := numV_parts a
      obtain ⟨d, hd⟩ : ∃ d, d = if has = true then digV b else 0 := ⟨_, rfl⟩
      have hparts : Parts s (numV a) d := by
        rcases hf with ⟨rfl, h1, rfl, rfl⟩ | ⟨rfl, rfl, h1⟩
        · exact .inl ⟨by rw [hd, if_neg (by decide)], h1, hav⟩
        · have h2 : DecL b ∧ b ≠ [48] ∧ b ≠ [49] := Classical.byContradiction fun h => hb2 ⟨rfl, h⟩
          rw [if_pos rfl] at hd
          refine .inr ⟨by rw [hd]; exact dec_two h2.1 h2.2.1 h2.2.2, a, h1, ?_, hav⟩
          rw [hd, dec_digV h2.1]
      have hbd : has = true → ∀ c ∈ b, Dig c := fun h => (Classical.byContradiction (p := DecL b) fun h2 => hb2 ⟨h, fun h3 => h2 h3.1⟩).2.1
      have hls : dl d ≤ 7778 := by
        rw [hd]
        split
        · rename_i h
          exact dl_of_lt (digV_lt (hbd h)) (by omega)
        · rw [dl_zero]
          omega
      have hln : zl (numV a) ≤ 7778 := zl_itoaP hav (by omega)
      have hlk : dl (denK d) ≤ 7778 := by
        unfold denK
        split
        · exact Nat.le_trans (dl_le (k := 1) (by decide)) (by decide)
        · exact hls
      repeat (first | refine wp_seq_region ?_ | refine wp_region ?_ | refine r_move (by conv => (lhs; whnf)) ?_ | refine wp_skip ?_)
      refine r_call (parsed_c hS hgood.1.2.1 (by omega)) rfl ?_
      rintro v_5 w_5 ⟨k_5, h1⟩
      replace hS := hS.to k_5
      replace hg := hg.to k_5
      replace k := k.trans k_5
      clear k_5
      refine r_call (signed_c (p := NegS a) (n := digV (Dgs a)) (numV a) h1 hnv1 hnv2) rfl ?_
      rintro v_6 w_6 ⟨k_6, m, rfl, h2⟩
      replace hS := hS.to k_6
      replace hg := hg.to k_6
      replace h1 := h1.to k_6
      replace k := k.trans k_6
      clear k_6
      refine r_build2of3 (by conv => (lhs; whnf)) ?_
      skip
      refine r_new (zs := [.bool false, .slice none 0 0, .slice none 0 0]) (us := [.bool (tst (numV a < 0)), m, .slice none 0 0]) rfl (fun _ => rfl) rfl rfl (ones3 rfl h2.one rfl) ?_
      intro w_7 g9 k_7 hs_7 hg9
      have hsg9 : w.heap.size ≤ g9 := Nat.le_trans k.size hs_7
      have ne_g_g9 : g ≠ g9 := fun e => by have := hg.lt; omega
      clear hs_7
      replace hS := hS.to k_7
      replace hg := hg.to k_7
      replace h2 := h2.to k_7
      replace k := k.trans k_7
      clear k_7
      have hgg : g ≠ g9 := ne_g_g9
      repeat (first | refine wp_seq_region ?_ | refine wp_seq_seq ?_ | refine wp_region ?_ | refine r_move (by conv => (lhs; whnf)) ?_ | refine r_nil ?_ | refine q_then ?_)
      first | refine wp_seq_block ?_ | refine wp_thenB ?_ | refine wp_thenBB ?_ | skip
      refine wp_mid [(58, 60)] (fun ρ w' => ∃ bt, Up S w' ∧ Ext w w' ∧ Blk w' g 34 [.bool false, .slice none 0 0, .slice none 0 0] ∧ Blk w' g9 34 [.bool (tst (numV a < 0)), m, bt] ∧ NatV S 127 .u32 w' m (numV a).natAbs ∧ NatV S 127 .u32 w' bt d) ?_ ?_
      · cases has
        · rw [if_neg (by decide)] at hd
          subst hd
          repeat (first | refine q_then ?_ | refine wp_skip ?_ | refine wp_cond_false rfl ?_)
          exact ⟨by (repeat (first | refine agree_upd rfl ?_ | exact agree_over | refine agree_sub rfl ?_ | exact agree_refl | refine agree_base rfl ?_ | refine agree_base' rfl ?_)), _, hS, k, hg, hg9, h2, .nil⟩
        · rw [if_pos rfl] at hd
          subst hd
          repeat (first | refine wp_region ?_ | refine r_move (by conv => (lhs; whnf)) ?_ | refine wp_cond_true rfl ?_)
          refine r_call (parsed_c hS (hbd rfl) (by omega)) rfl ?_
          rintro v_8 w_8 ⟨k_8, h3⟩
          replace hS := hS.to k_8
          replace hg := hg.to k_8
          replace h2 := h2.to k_8
          replace hg9 := hg9.to k_8
          replace k := k.trans k_8
          clear k_8
          repeat (first | refine r_field rfl ?_)
          refine r_store rfl rfl hg9 (show 0 + 2 < 3 by omega) h3.one ?_
          intro w_9 k_9 h_9
          replace hS := hS.to k_9
          replace hg := hg.wr k_9 (by omega)
          replace h2 := h2.wrT k_9 hg9 (by decide)
          replace h3 := h3.wrT k_9 hg9 (by decide)
          replace k : Ext w w_9 := k.past k_9 hsg9
          replace hg9 := h_9
          clear h_9 k_9
          repeat (first | refine r_nil ?_ | refine q_then ?_)
          exact ⟨by (repeat (first | refine agree_upd rfl ?_ | exact agree_over | refine agree_sub rfl ?_ | exact agree_refl | refine agree_base rfl ?_ | refine agree_base' rfl ?_)), _, hS, k, hg, hg9, h2, h3⟩
      rintro u6 w6 ⟨bt, hS, k, hg, hg9, h2, h3⟩
      have hm1 := h2.one
      have hb1 := h3.one
      repeat (first | refine wp_seq_region ?_ | refine wp_seq_seq ?_)
      refine wp_drawn 7 (by kernel_rfl) (by kernel_rfl) ?_
      apply ob_step
      · intro x w1 k1 hd
        refine r_load_all rfl (hg9.to k1) rfl ?_
        refine r_nil ?_
        exact ob_eq
      refine ob_step (e := natE S 127 .u32 (denK d)) ?_ ?_
      · intro x w1 k1 hd
        refine r_call (den0_c (x := .bool (tst (numV a < 0))) (m := m) (b := bt) (hS.to k1) rfl hm1 (h3.to k1)) rfl ?_
        rintro v2 w2 ⟨k2, h2⟩
        exact r_nil (ob_of k2 h2)
      apply ob_step
      · intro x w1 k1 hd
        refine r_field rfl ?_
        refine r_nil ?_
        exact ob_eq
      apply ob_step
      · intro x w1 k1 hd
        refine r_field rfl ?_
        refine r_nil ?_
        exact ob_eq
      apply ob_step
      · intro x w1 k1 hd
        refine r_load_blk rfl (hg9.to k1) rfl ?_
        refine r_nil ?_
        exact ob_eq
      refine ob_step (e := natE S 127 .u32 (Nat.gcd (denK d) (numV a).natAbs)) ?_ ?_
      · intro x w1 k1 hd
        refine r_call (gcd_c (hS.to k1) hd.2.2.2.1 (h2.to k1) (by omega) (Nat.le_trans hln (by decide))) rfl ?_
        rintro v2 w2 ⟨k2, h2⟩
        exact r_nil (ob_of k2 h2)
      refine ob_step (e := Ent.eq (.bool (tst (Nat.gcd (denK d) (numV a).natAbs = 1)))) ?_ ?_
      · intro x w1 k1 hd
        refine r_call (isOne_e (S := S) hd.1) rfl ?_
        rintro v2 w2 ⟨rfl, k2⟩
        exact r_nil (ob_eqv (rfl) k2)
      refine ob_nil (ob_end ?_)
      intro x w7 k7 _
      replace hS := hS.to k7
      replace hg := hg.to k7
      replace hg9 := hg9.to k7
      replace h2 := h2.to k7
      replace h3 := h3.to k7
      replace k := k.trans k7
      clear k7
      repeat (first | refine r_nil ?_ | refine q_then ?_ | refine r_notB rfl ?_)
      refine wp_cond_dec rfl ?_ ?_ <;> intro hgc
      · have hq := parts_bad hparts hgc
        repeat (first | refine wp_seq_region ?_ | refine wp_region ?_)
        refine r_build0 (cs := [.bool false, .slice none 0 0, .slice none 0 0]) rfl ?_
        refine r_store3 rfl (by conv => (lhs; whnf)) hg rfl rfl rfl rfl ?_
        intro w_9 k_9 h_9
        replace hS := hS.to k_9
        replace hg9 := hg9.wr k_9 (by omega)
        replace h2 := h2.wrT k_9 hg (by decide)
        replace h3 := h3.wrT k_9 hg (by decide)
        replace k : Ext w w_9 := k.past k_9 hsg
        replace hg := h_9
        clear h_9 k_9
        repeat (first | refine r_assign (by conv => (lhs; whnf)) ?_ | refine r_nil ?_ | refine q_then ?_ | refine wp_ret ?_ | refine q_then_ret ?_)
        exact end2 rfl (resV_agg (by conv => (lhs; whnf)) hg rfl) (resV_tmp (by conv => (lhs; whnf))) ⟨k, .inr (.inl ⟨by omega, hq, rfl⟩)⟩
      · obtain ⟨q, hq1, hq2, hq3⟩ := parts_good hparts (Classical.not_not.1 hgc)
        have hq : RatV S w7 (.agg #[.bool (tst (numV a < 0)), m, bt]) q := by
          rw [← hq1]
          refine ⟨m, bt, rfl, ?_, ?_⟩
          · rw [hq1]; exact h2
          · rw [hq2]; exact h3
        repeat (first | refine r_load_all rfl hg9 rfl ?_ | refine wp_seq_region ?_ | refine wp_region ?_ | refine wp_skip ?_ | refine r_func ?_)
        refine r_call (rattempt_c hS hq) rfl ?_
        rintro v_9 w_9 ⟨k_9, r, e, rfl, hor⟩
        replace hS := hS.to k_9
        replace hg := hg.to k_9
        replace k := k.trans k_9
        clear k_9
        rcases hor with ⟨hf, rfl, mr, br, rfl, hm, hb⟩ | ⟨hf, rfl, mr, br, rfl, hm, hb⟩
        · skip
          repeat (first | refine r_extract rfl rfl ?_)
          refine r_store3 rfl rfl hg rfl rfl hm.one hb.one ?_
          intro w_10 k_10 h_10
          replace hS := hS.to k_10
          replace hm := hm.wrT k_10 hg (by decide)
          replace hb := hb.wrT k_10 hg (by decide)
          replace k : Ext w w_10 := k.past k_10 hsg
          replace hg := h_10
          clear h_10 k_10
          repeat (first | refine r_assign (by conv => (lhs; whnf)) ?_ | refine r_nil ?_ | refine q_then ?_ | refine wp_ret ?_)
          exact end2 rfl (resV_agg (by conv => (lhs; whnf)) hg rfl) (resV_tmp (by conv => (lhs; whnf))) ⟨k, .inr (.inr ⟨by omega, q, hq3, _, _, rfl, .inl ⟨hf, rfl, mr, br, rfl, hm, hb⟩⟩)⟩
        · skip
          repeat (first | refine r_extract rfl rfl ?_)
          refine r_store3 rfl rfl hg rfl rfl hm.one hb.one ?_
          intro w_10 k_10 h_10
          replace hS := hS.to k_10
          replace hm := hm.wrT k_10 hg (by decide)
          replace hb := hb.wrT k_10 hg (by decide)
          replace k : Ext w w_10 := k.past k_10 hsg
          replace hg := h_10
          clear h_10 k_10
          repeat (first | refine r_assign (by conv => (lhs; whnf)) ?_ | refine r_nil ?_ | refine q_then ?_ | refine wp_ret ?_)
          exact end2 rfl (resV_agg (by conv => (lhs; whnf)) hg rfl) (resV_tmp (by conv => (lhs; whnf))) ⟨k, .inr (.inr ⟨by omega, q, hq3, _, _, rfl, .inr ⟨hf, rfl, mr, br, rfl, hm, hb⟩⟩)⟩
end Go.Proofs.YtpmnjjmngogkkaaGreatDoor
end

section
set_option linter.unusedVariables false
set_option linter.unusedSimpArgs false
namespace Go.Proofs.YtpmnjjmngogkkaaGreatDoor
open Go Go.RowKit
section
variable {S : Nat → Prop} {w : World} {gl gr m cap : Nat} {ts : List Tri} {l : List Rat}
theorem oneRow_c {gx : Nat} (hx : Blk w gx 93 [.slice (some ⟨gl, 0, none⟩) 1 1]) (hl : Blk w gl 95 [.slice (some ⟨gr, 0, none⟩) m cap]) :
    Gives Tryz.prog 162 [.slice (some ⟨gr, 0, none⟩) m cap, .pointer (some ⟨gx, 0, none⟩)] w fun v' w' => v' = .bool (tst ((m : Int) ≠ m)) ∧ w' = w := by
  refine gives_of Tryz.func162 rfl rfl rfl ?_
  repeat (first | refine r_load_blk rfl hx rfl ?_ | refine r_load_blk rfl hl rfl ?_ | refine wp_seq_region ?_ | refine wp_region ?_ | refine r_move (by conv => (lhs; whnf)) ?_ | refine r_assign (by conv => (lhs; whnf)) ?_ | refine r_nil ?_ | refine q_then ?_ | refine wp_ret ?_ | refine r_len_sl rfl ?_ | refine r_neq rfl rfl ?_ | refine r_index_sl rfl rfl (by omega) (by omega) ?_)
  exact end_tmp rfl (by conv => (lhs; whnf)) ⟨rfl, rfl⟩
theorem indexRow_c {gx : Nat} (hx : Blk w gx 93 [.slice (some ⟨gl, 0, none⟩) 1 1]) (hl : Blk w gl 95 [.slice (some ⟨gr, 0, none⟩) m cap]) :
    Gives Tryz.prog 201 [.slice (some ⟨gl, 0, none⟩) 1 1, .func (.func 162) #[] #[.pointer (some ⟨gx, 0, none⟩)]] w fun v' w' => v' = .int .i64 (-1) ∧ w' = w := by
  refine gives_of Tryz.func201 rfl rfl rfl ?_
  repeat (first | refine wp_seq_region ?_ | refine wp_seq_seq ?_ | refine wp_region ?_ | refine r_move (by conv => (lhs; whnf)) ?_ | refine r_assign (by conv => (lhs; whnf)) ?_ | refine r_nil ?_ | refine q_then ?_ | refine r_len_sl rfl ?_)
  try refine wp_seq_block ?_
  refine unr_for 3 ?_
  repeat (first | refine unr_step ?_ | refine r_load_blk rfl hl rfl ?_ | refine wp_seq_region ?_ | refine wp_seq_bseq ?_ | refine wp_region ?_ | refine r_move (by conv => (lhs; whnf)) ?_ | refine r_assign (by conv => (lhs; whnf)) ?_ | refine r_nil ?_ | refine q_then ?_ | refine wp_block_seq ?_ | refine wp_skip ?_ | refine r_lss rfl rfl ?_ | refine r_index_sl rfl rfl (by omega) (by omega) ?_ | refine wp_if_yes rfl (by omega) ?_)
  refine r_callv (first := []) (cap := [.pointer (some ⟨gx, 0, none⟩)]) rfl (oneRow_c hx hl) rfl ?_
  rintro v1 w1 ⟨rfl, rfl⟩
  repeat (first | refine unr_step ?_ | refine wp_seq_region ?_ | refine wp_region ?_ | refine r_move (by conv => (lhs; whnf)) ?_ | refine r_assign (by conv => (lhs; whnf)) ?_ | refine r_nil ?_ | refine q_then ?_ | refine wp_ret ?_ | refine wp_skip ?_ | refine wp_exit ?_ | refine r_lss rfl rfl ?_ | refine r_addI rfl rfl (by omega) (by omega) ?_ | refine wp_if_no rfl (by omega) ?_ | refine wp_cond_no rfl (by omega) ?_)
  exact end_tmp rfl (by conv => (lhs; whnf)) ⟨rfl, rfl⟩
theorem containsRow_c {gx : Nat} (hx : Blk w gx 93 [.slice (some ⟨gl, 0, none⟩) 1 1]) (hl : Blk w gl 95 [.slice (some ⟨gr, 0, none⟩) m cap]) :
    Gives Tryz.prog 161 [.slice (some ⟨gl, 0, none⟩) 1 1, .func (.func 162) #[] #[.pointer (some ⟨gx, 0, none⟩)]] w fun v' w' => v' = .bool false ∧ w' = w := by
  refine gives_of Tryz.func161 rfl rfl rfl ?_
  repeat (first | refine wp_seq_region ?_ | refine wp_region ?_ | refine r_move (by conv => (lhs; whnf)) ?_ | refine r_assign (by conv => (lhs; whnf)) ?_ | refine r_nil ?_)
  refine r_call (indexRow_c hx hl) rfl ?_
  rintro v2 w2 ⟨rfl, rfl⟩
  repeat (first | refine r_assign (by conv => (lhs; whnf)) ?_ | refine r_nil ?_ | refine q_then ?_ | refine wp_ret ?_ | refine r_geq rfl rfl ?_)
  exact end_tmp rfl (by conv => (lhs; whnf)) ⟨by show Value.bool (tst _) = _; rw [tst_false (by omega)], rfl⟩
/-- Fractions of few digits are small. -/
theorem rl_short {q : Rat} (h : Short q) : rl q 8 := by
  have h1 : ∀ a, Lib.nDigits a ≤ 60 → dl a ≤ 8 := fun a ha => dl_le (Nat.lt_of_lt_of_le (Lib.lt_pow_nDigits a) (Nat.le_trans (Nat.pow_le_pow_right (by omega) ha) (by decide)))
  exact ⟨h1 _ h.1, h1 _ h.2⟩
theorem checkRows_c (hS : Up S w) (ht : Tab w) (hl : Blk w gl 95 [.slice (some ⟨gr, 0, none⟩) m cap]) (hb : Blk w gr 34 (flat ts)) (hr : Rats S w (ts.take m) l) (hm : m ≤ ts.length) (hmm : m ≤ 40) (hs : ∀ q ∈ l, Short q) :
    Gives Tryz.prog 122 [.slice (some ⟨gl, 0, none⟩) 1 1] w fun v' w' => v' = .int .i64 0 ∧ Ext w w' := by
  refine gives_of Tryz.func122 rfl rfl rfl ?_
  repeat (first | refine wp_seq_region ?_ | refine wp_region ?_)
  refine r_box1 (v := .slice (some ⟨gl, 0, none⟩) 1 1) rfl rfl ?_
  intro w1 gx k1 hx hgs
  have hl1 := hl.to k1
  repeat (first | refine r_load_blk rfl hx rfl ?_ | refine r_load_blk rfl hl1 rfl ?_ | refine wp_seq_region ?_ | refine wp_seq_seq ?_ | refine wp_region ?_ | refine r_move (by conv => (lhs; whnf)) ?_ | refine r_assign (by conv => (lhs; whnf)) ?_ | refine r_nil ?_ | refine q_then ?_ | refine wp_skip ?_ | refine r_len_sl rfl ?_ | refine r_guard_run rfl rfl ?_ | refine r_pick_true rfl (by conv => (lhs; whnf)) ?_ | refine r_pick_false rfl (by conv => (lhs; whnf)) ?_ | refine r_gtr rfl rfl ?_ | refine r_index_sl rfl rfl (by omega) (by omega) ?_ | refine r_func ?_ | refine wp_cond_no rfl (by omega) ?_ | refine r_guard_yes rfl rfl (by omega) ?_ | refine r_guard_no rfl rfl (by omega) ?_)
  refine r_call (containsRow_c hx hl1) rfl ?_
  rintro v2 w2 ⟨rfl, rfl⟩
  repeat (first | refine r_load_blk rfl hx rfl ?_ | refine wp_seq_region ?_ | refine wp_seq_seq ?_ | refine wp_region ?_ | refine r_move (by conv => (lhs; whnf)) ?_ | refine r_nil ?_ | refine q_then ?_ | refine wp_skip ?_ | refine r_len_sl rfl ?_ | refine wp_cond_false rfl ?_)
  try refine wp_seq_block ?_
  refine unr_for 3 ?_
  repeat (first | refine unr_step ?_ | refine r_load_blk rfl hl1 rfl ?_ | refine wp_seq_region ?_ | refine wp_seq_bseq ?_ | refine wp_region ?_ | refine r_move (by conv => (lhs; whnf)) ?_ | refine r_assign (by conv => (lhs; whnf)) ?_ | refine r_nil ?_ | refine q_then ?_ | refine wp_block_seq ?_ | refine wp_skip ?_ | refine r_lss rfl rfl ?_ | refine r_index_sl rfl rfl (by omega) (by omega) ?_ | refine wp_if_yes rfl (by omega) ?_)
  refine r_call (contains_c (first := []) (caps := []) (fun q => ¬ Short q) (hb.to k1) (hr.to k1) hm (by omega) ?_) rfl ?_
  · intro w' v q k hq hql
    exact long_c (hS.to (k1.trans k)) (ht.to (k1.trans k)) hq (by have := rl_short (hs q hql); exact ⟨by omega, by omega⟩)
  rintro v3 w3 ⟨rfl, k3⟩
  repeat (first | refine r_nil ?_ | refine q_then ?_)
  refine wp_cond_no rfl (fun ⟨q, h1, h2⟩ => h2 (hs q h1)) ?_
  repeat (first | refine unr_step ?_ | refine wp_seq_region ?_ | refine wp_region ?_ | refine r_move (by conv => (lhs; whnf)) ?_ | refine r_assign (by conv => (lhs; whnf)) ?_ | refine r_nil ?_ | refine q_then ?_ | refine wp_ret ?_ | refine wp_skip ?_ | refine wp_exit ?_ | refine r_lss rfl rfl ?_ | refine r_addI rfl rfl (by omega) (by omega) ?_ | refine wp_if_no rfl (by omega) ?_)
  exact end_tmp rfl (by conv => (lhs; whnf)) ⟨rfl, k1.trans k3⟩
theorem check_c {gb mb capb : Nat} {tb : List Tri} {lb : List Rat} (hS : Up S w) (ht : Tab w) (hl : Blk w gl 95 [.slice (some ⟨gr, 0, none⟩) m cap]) (hb : Blk w gr 34 (flat ts)) (hr : Rats S w (ts.take m) l) (hm : m ≤ ts.length) (hmm : m ≤ 40) (hs : ∀ q ∈ l, Short q)
    (hbb : Blk w gb 34 (flat tb)) (hrb : Rats S w (tb.take 1) lb) (hmb : 1 ≤ tb.length) (hsb : ∀ q ∈ lb, Short q) :
    Gives Tryz.prog 126 [.slice (some ⟨gl, 0, none⟩) 1 1, .slice (some ⟨gb, 0, none⟩) 1 capb] w fun v' w' => v' = .int .i64 0 ∧ Ext w w' := by
  refine gives_of Tryz.func126 rfl rfl rfl ?_
  repeat (first | refine wp_seq_region ?_ | refine wp_seq_seq ?_ | refine wp_region ?_ | refine r_move (by conv => (lhs; whnf)) ?_ | refine r_assign (by conv => (lhs; whnf)) ?_ | refine r_nil ?_)
  refine r_call (checkRows_c hS ht hl hb hr hm hmm hs) rfl ?_
  rintro v1 w1 ⟨rfl, k1⟩
  repeat (first | refine wp_seq_region ?_ | refine wp_seq_bseq ?_ | refine wp_region ?_ | refine r_move (by conv => (lhs; whnf)) ?_ | refine r_assign (by conv => (lhs; whnf)) ?_ | refine r_nil ?_ | refine q_then ?_ | refine wp_block_seq ?_ | refine wp_skip ?_ | refine r_len_sl rfl ?_ | refine r_guard_skip rfl rfl rfl ?_ | refine r_pick_false rfl (by conv => (lhs; whnf)) ?_ | refine r_neq rfl rfl ?_ | refine wp_cond_false rfl ?_ | refine wp_cond_no rfl (by omega) ?_ | refine r_guard_no rfl rfl (by omega) ?_)
  refine r_call (checkRows_c (hS.to k1) (ht.to k1) (hl.to k1) (hb.to k1) (hr.to k1) hm hmm hs) rfl ?_
  rintro v2 w2 ⟨rfl, k2⟩
  repeat (first | refine r_move (by conv => (lhs; whnf)) ?_ | refine r_guard_run rfl rfl ?_ | refine r_eql rfl rfl ?_ | refine r_guard_no rfl rfl (by omega) ?_)
  refine r_call (contains_c (first := []) (caps := []) (fun q => ¬ Short q) ((hbb.to k1).to k2) ((hrb.to k1).to k2) hmb (by omega) ?_) rfl ?_
  · intro w' v q k hq hql
    exact long2_c (((hS.to k1).to k2).to k) (((ht.to k1).to k2).to k) hq (by have := rl_short (hsb q hql); exact ⟨by omega, by omega⟩)
  rintro v3 w3 ⟨rfl, k3⟩
  repeat (first | refine r_assign (by conv => (lhs; whnf)) ?_ | refine r_nil ?_ | refine q_then ?_ | refine r_pick_false rfl (by conv => (lhs; whnf)) ?_)
  first | refine wp_cond_no rfl (fun ⟨q, h1, h2⟩ => h2 (hsb q h1)) ?_ | refine wp_if_no rfl (fun ⟨q, h1, h2⟩ => h2 (hsb q h1)) ?_
  repeat (first | refine wp_seq_region ?_ | refine wp_region ?_ | refine r_assign (by conv => (lhs; whnf)) ?_ | refine r_nil ?_ | refine q_then ?_ | refine wp_ret ?_ | refine wp_skip ?_)
  exact end_tmp rfl (by conv => (lhs; whnf)) ⟨rfl, (k1.trans k2).trans k3⟩
end
end Go.Proofs.YtpmnjjmngogkkaaGreatDoor
end

section
set_option linter.unusedVariables false
set_option linter.unusedSimpArgs false
namespace Go.Proofs.YtpmnjjmngogkkaaGreatDoor
open Go Go.RowKit
theorem agree_base {W : List (Nat × Nat)} {ρ ρ' : Fr} {d : Nat} {v : Value} (hd : inW W d = true) (h : Agree W ρ ρ') : Agree W (upd ρ d v) ρ' := by
  intro i hi
  rw [h i hi, upd_ne]
  cases hb : Nat.beq i d with
  | false => rfl
  | true => rw [Nat.eq_of_beq_eq_true hb, hd] at hi; cases hi
theorem RatV.wrT {S : Nat → Prop} {w w' : World} {v : Value} {q : Rat} {g : Nat} {T' : TypeId} {ds : List Value} (h : RatV S w v q) (k : Wrt g w w') (hb : Blk w g T' ds) (hT : T' ≠ 127) : RatV S w' v q :=
  let ⟨m, b, h1, h2, h3⟩ := h; ⟨m, b, h1, h2.wrT k hb hT, h3.wrT k hb hT⟩
theorem Rats.wrT {S : Nat → Prop} {w w' : World} {g : Nat} {T' : TypeId} {ds : List Value} (k : Wrt g w w') (hb : Blk w g T' ds) (hT : T' ≠ 127) : ∀ {ts : List Tri} {l : List Rat}, Rats S w ts l → Rats S w' ts l
  | [], [], _ => trivial
  | _ :: _, _ :: _, ⟨h1, h2⟩ => ⟨h1.wrT k hb hT, Rats.wrT k hb hT h2⟩
theorem Rats.set {S : Nat → Prop} {w : World} {t : Tri} {q : Rat} (hq : RatV S w t.val q) : ∀ {ts : List Tri} {l : List Rat} {j : Nat}, Rats S w ts l → Rats S w (ts.set j t) (l.set j q)
  | [], [], _, _ => trivial
  | _ :: _, _ :: _, 0, ⟨_, h2⟩ => ⟨hq, h2⟩
  | _ :: _, _ :: _, j + 1, ⟨h1, h2⟩ => ⟨h1, Rats.set hq h2⟩
theorem RatV.ones {S : Nat → Prop} {w : World} {t : Tri} {q : Rat} (h : RatV S w t.val q) : t.1.oneCell' = true ∧ t.2.1.oneCell' = true ∧ t.2.2.oneCell' = true := by
  obtain ⟨m, b, he, hm, hb⟩ := h
  obtain ⟨x, y, z⟩ := t
  unfold Tri.val at he
  simp only [Value.agg.injEq, List.toArray_eq_iff] at he
  have h1 : [x, y, z] = [.bool (tst (q.num < 0)), m, b] := by simpa using he
  simp only [List.cons.injEq, and_true] at h1
  obtain ⟨rfl, rfl, rfl⟩ := h1
  exact ⟨rfl, hm.one, hb.one⟩
theorem mkRat_le (z : Int) {d : Nat} (hd : 0 < d) : (mkRat z d).num.natAbs ≤ z.natAbs ∧ (mkRat z d).den ≤ d := by
  obtain ⟨h1, h2, _, _⟩ := mkRat_parts z hd
  rw [h1, h2]
  exact ⟨Nat.div_le_self .., Nat.div_le_self ..⟩
theorem rl_mul {a b : Rat} {n m : Nat} (ha : rl a n) (hb : rl b m) : rl (a * b) (n + m) := by
  rw [rat_times]
  obtain ⟨h1, h2⟩ := mkRat_le (a.num * b.num) (Nat.mul_pos a.den_pos b.den_pos)
  have h3 := dl_mul a.num.natAbs b.num.natAbs
  have h4 := dl_mul a.den b.den
  rw [Int.natAbs_mul] at h1
  obtain ⟨a1, a2⟩ := ha
  obtain ⟨b1, b2⟩ := hb
  exact ⟨Nat.le_trans (dl_mono h1) (by omega), Nat.le_trans (dl_mono h2) (by omega)⟩
theorem rl_mono {a : Rat} {n m : Nat} (h : rl a n) (hm : n ≤ m) : rl a m := ⟨Nat.le_trans h.1 hm, Nat.le_trans h.2 hm⟩
def takeL (c : Rat) : List Rat → List Rat → List Rat
  | d :: ds, f :: fs => (d - c * f) :: takeL c ds fs
  | ds, _ => ds
theorem takeL_nil (c : Rat) (ds : List Rat) : takeL c ds [] = ds := by cases ds <;> rfl
theorem takeL_at (c : Rat) : ∀ (ds fs : List Rat) (i : Nat), (takeL c ds (fs.take i))[i]? = ds[i]?
  | [], fs, i => by cases fs <;> simp [takeL]
  | d :: ds, [], i => by simp [takeL]
  | d :: ds, f :: fs, 0 => by simp [takeL]
  | d :: ds, f :: fs, i + 1 => by simp [takeL, takeL_at c ds fs i]
theorem takeL_step (c : Rat) : ∀ (ds fs : List Rat) (i : Nat) {d f : Rat}, ds[i]? = some d → fs[i]? = some f → takeL c ds (fs.take (i + 1)) = (takeL c ds (fs.take i)).set i (d - c * f)
  | [], fs, i, d, f, h, _ => by simp at h
  | d :: ds, [], i, _, _, _, h => by simp at h
  | d :: ds, f :: fs, 0, _, _, h1, h2 => by
    simp at h1 h2
    subst h1 h2
    simp [takeL, takeL_nil]
  | d :: ds, f :: fs, i + 1, _, _, h1, h2 => by
    have := takeL_step c ds fs i (by simpa using h1) (by simpa using h2)
    simp [takeL, this]
theorem takeL_length (c : Rat) : ∀ (ds fs : List Rat), (takeL c ds fs).length = ds.length
  | [], fs => by cases fs <;> rfl
  | d :: ds, [] => rfl
  | d :: ds, f :: fs => by simp [takeL, takeL_length c ds fs]
theorem take_c {S : Nat → Prop} {w : World} {gd nd capd gf nf capf : Nat} {td tf : List Tri} {ld lf : List Rat} {vc : Value} {c : Rat} (hS : Up S w) (hc : RatV S w vc c) (hlc : rl c 100000000000)
    (hd : Blk w gd 34 (flat td)) (hrd : Rats S w td ld) (hld : ∀ q ∈ ld, rl q 100000000000) (hf : Blk w gf 34 (flat tf)) (hrf : Rats S w (tf.take nf) lf) (hnf : nf ≤ tf.length) (hlf : ∀ q ∈ lf, rl q 100000000000)
    (hne : gd ≠ gf) (hnd : nd = td.length) (hn : nf ≤ nd) (hnn : nd ≤ 1000000000) :
    Gives Tryz.prog 165 [.slice (some ⟨gd, 0, none⟩) nd capd, vc, .slice (some ⟨gf, 0, none⟩) nf capf] w fun v' w' => Wrt gd w w' ∧ ∃ td', Blk w' gd 34 (flat td') ∧ Rats S w' td' (takeL c ld lf) := by
  have hlen : lf.length = nf := by rw [← hrf.length, List.length_take]; omega
  have hlend : ld.length = nd := by rw [← hrd.length, hnd]
  obtain ⟨mc, bc, rfl, hmc, hbc⟩ := hc
  have hc : RatV S w (.agg #[.bool (tst (c.num < 0)), mc, bc]) c := ⟨mc, bc, rfl, hmc, hbc⟩
  refine gives_of Tryz.func165 rfl rfl rfl ?_
  repeat (first | refine wp_seq_region ?_ | refine wp_region ?_)
  refine r_box (cs := [.bool (tst (c.num < 0)), mc, bc]) (by conv => (lhs; whnf)) rfl ?_
  intro w1 gc k1 hgc hgsc
  have hdl := hd.lt
  have hfl := hf.lt
  repeat (first | refine wp_seq_region ?_ | refine wp_region ?_ | refine r_move (by conv => (lhs; whnf)) ?_ | refine r_nil ?_ | refine q_then ?_ | refine r_len_sl rfl ?_)
  try refine wp_seq_block ?_
  refine wp_for [(6, 7), (10, 32)] (fun k ρ w' => ∃ (i : Nat) (ti : List Tri), ρ 10 = .int .i64 (i : Int) ∧ i + k = nf ∧ Wrt gd w1 w' ∧ Blk w' gd 34 (flat ti) ∧ Rats S w' ti (takeL c ld (lf.take i))) nf ?_ ?_
  · exact ⟨0, td, rfl, by omega, .refl, hd.to k1, by rw [List.take_zero, takeL_nil]; exact hrd.to k1⟩
  rintro k u w2 ⟨i, ti, h10, hik, k2, hdi, hri⟩
  refine wp_learn 10 h10 ?_
  have hS2 : Up S w2 := fun j hj => hS j (by have := k1.size; have := k2.size; omega)
  have hgc2 := hgc.wr k2 (by omega)
  have hf2 := (hf.to k1).wr k2 (fun e => hne e.symm)
  have hrf2 := (hrf.to k1).wrT k2 (hd.to k1) (by decide)
  have hc2 := (hc.to k1).wrT k2 (hd.to k1) (by decide)
  have hti : ti.length = nd := by rw [hri.length, takeL_length, hlend]
  repeat (first | refine wp_seq_region ?_ | refine wp_region ?_ | refine r_nil ?_ | refine q_then ?_ | refine r_lss rfl rfl ?_)
  try refine wp_seq_cond ?_
  refine wp_cond_dec rfl ?_ ?_ <;> intro hlt
  · obtain ⟨x, hx⟩ : ∃ q, lf[i]? = some q := ⟨lf[i]'(by omega), List.getElem?_eq_getElem (by omega)⟩
    obtain ⟨d, hdd⟩ : ∃ q, ld[i]? = some q := ⟨ld[i]'(by omega), List.getElem?_eq_getElem (by omega)⟩
    obtain ⟨tx, htx, hxv⟩ := hrf2.get hx
    have htx' : tf[i]? = some tx := by rw [List.getElem?_take] at htx; split at htx; exact htx; cases htx
    obtain ⟨tdd, htd, hdv⟩ := hri.get ((takeL_at c ld lf i).trans hdd)
    have hlx := hlf x (List.mem_of_getElem? hx)
    have hldd := hld d (List.mem_of_getElem? hdd)
    repeat (first | refine wp_seq_region ?_ | refine wp_seq_bseq ?_ | refine wp_region ?_ | refine r_move (by conv => (lhs; whnf)) ?_ | refine wp_block_seq ?_ | refine wp_skip ?_ | refine r_index_sl rfl rfl (by omega) (by omega) ?_)
    refine r_load_tri i rfl (by omega) hf2 htx' ?_
    refine r_alloc (cs := [.bool false, .slice none 0 0, .slice none 0 0]) rfl ?_
    intro w3 gx k3 hgx hgsx
    repeat (first | refine r_assign (by conv => (lhs; whnf)) ?_)
    have hxo := hxv.ones
    refine r_store3 rfl rfl hgx rfl hxo.1 hxo.2.1 hxo.2.2 ?_
    intro w4 k4 hgx4
    have k34 : Ext w2 w4 := k3.past k4 hgsx
    have hgx4' : Blk w4 gx 34 (flat [tx]) := hgx4
    have hgd4 := hdi.to k34
    have hgc4 := hgc2.to k34
    have hx4 := hxv.to k34
    have hd4 := hdv.to k34
    have hc4 := hc2.to k34
    have hS4 := hS2.to k34
    repeat (first | refine r_load_all rfl hgx4 rfl ?_ | refine r_iface rfl ?_ | refine wp_seq_region ?_ | refine wp_region ?_ | refine r_nil ?_)
    refine r_invoke meth_sign rfl (rsign_c (v := tx.val) hx4) rfl ?_
    rintro v5 w5 ⟨rfl, k5⟩
    replace hgx4 := hgx4.to k5
    replace hgd4 := hgd4.to k5
    replace hgc4 := hgc4.to k5
    replace hx4 := hx4.to k5
    replace hd4 := hd4.to k5
    replace hc4 := hc4.to k5
    replace hS4 := hS4.to k5
    have k25 := k34.trans k5
    repeat (first | refine r_nil ?_ | refine q_then ?_ | refine r_neq rfl rfl ?_)
    first | refine wp_seq_block ?_ | refine wp_thenB ?_ | refine wp_thenBB ?_ | skip
    refine wp_mid [(19, 31)] (fun ρ w' => Wrt gd w1 w' ∧ ∃ ti, Blk w' gd 34 (flat ti) ∧ Rats S w' ti (takeL c ld (lf.take (i + 1)))) ?_ ?_
    · try refine wp_seq_cond ?_
      refine wp_cond_dec rfl ?_ ?_ <;> intro hz
      · refine wp_drawn 13 (by kernel_rfl) (by kernel_rfl) ?_
        apply ob_step
        · intro x w1 k1 hd
          refine r_move (by conv => (lhs; whnf)) ?_
          refine r_nil ?_
          exact ob_eq
        apply ob_step
        · intro x w1 k1 hd
          refine r_move (by conv => (lhs; whnf)) ?_
          refine r_nil ?_
          exact ob_eq
        apply ob_step
        · intro x w1 k1 hd
          refine r_move (by conv => (lhs; whnf)) ?_
          refine r_nil ?_
          exact ob_eq
        apply ob_step
        · intro x w1 k1 hd
          refine r_move (by conv => (lhs; whnf)) ?_
          refine r_nil ?_
          exact ob_eq
        apply ob_step
        · intro x w1 k1 hd
          refine r_index_sl rfl rfl (by omega) (by omega) ?_
          refine r_nil ?_
          exact ob_eq
        apply ob_step
        · intro x w1 k1 hd
          refine r_load_tri i rfl (by omega) (hgd4.to k1) htd ?_
          refine r_nil ?_
          exact ob_eq
        apply ob_step
        · intro x w1 k1 hd
          refine r_iface (by conv => (lhs; whnf)) ?_
          refine r_nil ?_
          exact ob_eq
        apply ob_step
        · intro x w1 k1 hd
          refine r_load_all rfl (hgc4.to k1) rfl ?_
          refine r_nil ?_
          exact ob_eq
        apply ob_step
        · intro x w1 k1 hd
          refine r_iface (by conv => (lhs; whnf)) ?_
          refine r_nil ?_
          exact ob_eq
        apply ob_step
        · intro x w1 k1 hd
          refine r_load_all rfl (hgx4.to k1) rfl ?_
          refine r_nil ?_
          exact ob_eq
        refine ob_step (e := ratE S (c * x)) ?_ ?_
        · intro x w1 k1 hd
          refine r_invoke meth_times rfl (rtimes_c (vb := tx.val) (hS4.to k1) (hc4.to k1) (hx4.to k1) (rl_mono hlc (by omega)) (rl_mono hlx (by omega))) rfl ?_
          rintro v2 w2 ⟨k2, h2⟩
          exact r_nil (ob_of k2 h2)
        refine ob_step (e := ratE S (d - c * x)) ?_ ?_
        · intro x w1 k1 hd
          refine r_invoke meth_minus rfl (rminus_c (va := tdd.val) (hS4.to k1) (hd4.to k1) hd.1 (rl_mono hldd (by omega)) (rl_mono (rl_mul hlc hlx) (by omega))) rfl ?_
          rintro v2 w2 ⟨k2, h2⟩
          exact r_nil (ob_of k2 h2)
        apply ob_step
        · intro x w1 k1 hd
          refine r_index_sl rfl rfl (by omega) (by omega) ?_
          refine r_nil ?_
          exact ob_eq
        refine ob_nil (ob_end ?_)
        intro x5 w6 k6 hall
        obtain ⟨t6, ht6, h6, o1, o2, o3⟩ := RatV.tri (show RatV S w6 (x5 11) (d - c * x) from hall.2.1)
        refine r_store_tri i rfl (by omega) ht6 (hgd4.to k6) (by omega) o1 o2 o3 ?_
        intro w7 k7 hgd7
        repeat (first | refine r_nil ?_ | refine q_then ?_)
        refine ⟨by (repeat (first | refine agree_upd rfl ?_ | exact agree_over | refine agree_sub rfl ?_ | exact agree_refl)), ?_, _, hgd7, ?_⟩
        · exact (k2.trans (Keeps.of (k25.trans k6))).trans k7
        · rw [takeL_step c ld lf i hdd hx]
          exact Rats.set (h6.wrT k7 (hgd4.to k6) (by decide)) (((hri.to k25).to k6).wrT k7 (hgd4.to k6) (by decide))
      · repeat (first | refine q_then ?_ | refine wp_skip ?_)
        have hx0 : x = 0 := by
          have : x.num = 0 := Int.sign_eq_zero_iff_zero.1 (Classical.not_not.1 hz)
          exact Rat.num_eq_zero.1 this
        refine ⟨by (repeat (first | refine agree_upd rfl ?_ | exact agree_over | refine agree_sub rfl ?_ | exact agree_refl)), k2.trans (Keeps.of k25), ti, hgd4, ?_⟩
        rw [takeL_step c ld lf i hdd hx, hx0, Rat.mul_zero, show d - 0 = d by grind]
        have e : (takeL c ld (lf.take i)).set i d = takeL c ld (lf.take i) := by
          have h1 := (takeL_at c ld lf i).trans hdd
          refine List.ext_getElem? fun j => ?_
          rw [List.getElem?_set]
          split
          · rename_i e; subst e
            split
            · rw [h1]
            · rename_i h; rw [List.getElem?_eq_none (by omega)]
          · rfl
        rw [e]
        exact hri.to k25
    rintro u2 w6 ⟨k6, t6, hgd6, hr6⟩
    repeat (first | refine wp_region ?_ | refine r_move (by conv => (lhs; whnf)) ?_ | refine r_nil ?_ | refine q_then ?_ | refine r_addI rfl rfl (by omega) (by omega) ?_)
    exact ⟨by (repeat (first | refine agree_upd rfl ?_ | exact agree_over | refine agree_sub rfl ?_ | exact agree_refl)), k - 1, by omega, i + 1, t6, congrArg (Value.int .i64) (by omega), by omega, k6, hgd6, hr6⟩
  · repeat (first | refine wp_exit ?_ | refine q_then_exit ?_ | refine q_block_hit rfl ?_)
    refine ⟨[], rfl, ?_, ti, hdi, ?_⟩
    · exact (Keeps.of k1).trans k2
    · rwa [List.take_of_length_le (by omega)] at hri
end Go.Proofs.YtpmnjjmngogkkaaGreatDoor
end

section
set_option linter.unusedVariables false
set_option linter.unusedSimpArgs false
namespace Go.Proofs.YtpmnjjmngogkkaaGreatDoor
open Go Go.RowKit
/-- What a call returns: the fraction, or the error and 0. -/
def DoneOk (x : Rat) (e : Int) (q : Rat) : Prop := (Fits q ∧ e = 0 ∧ x = q) ∨ (¬ Fits q ∧ e = 11 ∧ x = 0)
end Go.Proofs.YtpmnjjmngogkkaaGreatDoor
end

section
set_option linter.unusedVariables false
set_option linter.unusedSimpArgs false
namespace Go.Proofs.YtpmnjjmngogkkaaGreatDoor
open Go Go.RowKit
def zTri : Tri := (.bool false, .slice none 0 0, .slice none 0 0)
theorem zTri_rat {S : Nat → Prop} {w : World} : RatV S w zTri.val 0 := zero_rat
theorem made_flat (a b c : Value) (n : Nat) : (madeCells #[a, b, c] (n * 3)).toList = flat (List.replicate n (a, b, c)) := by
  have key : ∀ n, (List.range (n * 3)).map (fun i => (#[a, b, c] : Array Value)[i % 3]!) = flat (List.replicate n (a, b, c)) := by
    intro n
    induction n with
    | zero => rfl
    | succ n ih =>
      rw [show (n + 1) * 3 = n * 3 + 1 + 1 + 1 by omega, List.range_succ, List.range_succ, List.range_succ, List.map_append, List.map_append, List.map_append, ih, List.replicate_succ', flat_append]
      have e0 : n * 3 % 3 = 0 := by omega
      have e1 : (n * 3 + 1) % 3 = 1 := by omega
      have e2 : (n * 3 + 1 + 1) % 3 = 2 := by omega
      simp [e0, e1, e2, flat]
  rw [← key n]
  simp [madeCells]
theorem rl_le {q : Rat} {n : Nat} (hn : 0 < n) (h1 : q.num.natAbs ≤ 1) (h2 : q.den ≤ 1) : rl q n := by
  have h : ∀ a, a ≤ 1 → dl a ≤ n := fun a ha => Nat.le_trans (dl_le (k := 1) (by omega)) hn
  exact ⟨h _ h1, h _ h2⟩
theorem rl_zero : rl 0 400000000000 := rl_le (by decide) (by decide) (by decide)
theorem rl_one {n : Nat} (hn : 0 < n) : rl ((1 : Int) : Rat) n := rl_le hn (by decide) (by decide)
theorem take_eq : takeL ((1 : Int) : Rat) [0, 0, 0 + ((1 : Int) : Rat), 0] [-1, -1, ((1 : Int) : Rat), - (-1)] = [1, 1, 0, -1] := by decide +kernel
theorem small_d : ∀ q ∈ ([0, 0, 0 + ((1 : Int) : Rat), 0] : List Rat), rl q 100000000000 := by
  intro q hq
  have h : ([0, 0, 0 + ((1 : Int) : Rat), 0] : List Rat).all (fun q => decide (q.num.natAbs ≤ 1) && decide (q.den ≤ 1)) = true := by decide +kernel
  have := List.all_eq_true.1 h q hq
  simp only [Bool.and_eq_true, decide_eq_true_eq] at this
  exact rl_le (by decide) this.1 this.2
theorem small_f : ∀ q ∈ ([-1, -1, ((1 : Int) : Rat), - (-1)] : List Rat), rl q 100000000000 := by
  intro q hq
  have h : ([-1, -1, ((1 : Int) : Rat), - (-1)] : List Rat).all (fun q => decide (q.num.natAbs ≤ 1) && decide (q.den ≤ 1)) = true := by decide +kernel
  have := List.all_eq_true.1 h q hq
  simp only [Bool.and_eq_true, decide_eq_true_eq] at this
  exact rl_le (by decide) this.1 this.2
theorem columns_c {w : World} {gl gr m cap : Nat} (hl : Blk w gl 95 [.slice (some ⟨gr, 0, none⟩) m cap]) :
    Gives Tryz.prog 123 [.slice (some ⟨gl, 0, none⟩) 1 1] w fun v' w' => v' = .int .i64 m ∧ w' = w := by
  refine gives_of Tryz.func123 rfl rfl rfl ?_
  repeat (first | refine r_load_blk rfl hl rfl ?_ | refine wp_seq_region ?_ | refine wp_seq_seq ?_ | refine wp_region ?_ | refine r_move (by conv => (lhs; whnf)) ?_ | refine r_assign (by conv => (lhs; whnf)) ?_ | refine r_nil ?_ | refine q_then ?_ | refine wp_ret ?_ | refine wp_skip ?_ | refine r_len_sl rfl ?_ | refine r_eql rfl rfl ?_ | refine r_index_sl rfl rfl (by omega) (by omega) ?_ | refine wp_cond_no rfl (by omega) ?_)
  exact end_tmp rfl (by conv => (lhs; whnf)) ⟨rfl, rfl⟩
set_option maxRecDepth 100000 in
set_option maxHeartbeats 8000000 in
theorem simplex_c {S : Nat → Prop} {w : World} {gl gr gb capb : Nat} {t1 t2 tb : Tri} (hS : Up S w) (ht : Tab w) (hl : Blk w gl 95 [.slice (some ⟨gr, 0, none⟩) 2 2])
    (hb : Blk w gr 34 (flat [t1, t2])) (h1 : RatV S w t1.val 1) (h2 : RatV S w t2.val 1) (hbb : Blk w gb 34 (flat [tb])) (hB : RatV S w tb.val (-1)) :
    Gives Tryz.prog 134 [.slice (some ⟨gl, 0, none⟩) 1 1, .slice (some ⟨gb, 0, none⟩) 1 capb] w fun v' w' => Ext w w' ∧ ∃ gs gc gg capg rows basic tc, v' = .pointer (some ⟨gs, 0, none⟩) ∧
      Blk w' gs 169 [rows, .slice (some ⟨gc, 0, none⟩) 4 4, basic, .int .i64 2, .slice (some ⟨gg, 0, none⟩) 1 capg] ∧ Blk w' gc 34 (flat tc) ∧ Rats S w' tc [1, 1, 0, -1] ∧ (∃ cs, Blk w' gg 4 (.bool true :: cs)) := by
  have hB0 := hB
  refine gives_of Tryz.func134 rfl rfl rfl ?_
  repeat (first | refine wp_seq_region ?_ | refine wp_region ?_ | refine r_move (by conv => (lhs; whnf)) ?_ | refine r_assign (by conv => (lhs; whnf)) ?_ | refine r_nil ?_)
  refine r_call (columns_c hl) rfl ?_
  rintro v1 w1 ⟨rfl, rfl⟩
  refine r_build (parts := [(3, .tmp 14)]) (zs := [.slice none 0 0, .slice none 0 0, .slice none 0 0, .int .i64 0, .slice none 0 0]) (vs := [(3, .int .i64 2)]) (cs := [.slice none 0 0, .slice none 0 0, .slice none 0 0, .int .i64 2, .slice none 0 0]) rfl rfl (fill_one rfl rfl (by simp) fill_nil) ?_
  refine r_box (cs := [.slice none 0 0, .slice none 0 0, .slice none 0 0, .int .i64 2, .slice none 0 0]) (by conv => (lhs; whnf)) rfl ?_
  intro w2 gs k2 hgs hgss
  have hl2 := hl.to k2
  have hb2 := hb.to k2
  have hbb2 := hbb.to k2
  repeat (first | refine r_nilCheck rfl ?_ | refine r_load_blk rfl hgs rfl ?_ | refine wp_seq_region ?_ | refine wp_region ?_ | refine r_move (by conv => (lhs; whnf)) ?_ | refine r_assign (by conv => (lhs; whnf)) ?_ | refine r_nil ?_ | refine r_len_sl rfl ?_ | refine r_addI rfl rfl (by omega) (by omega) ?_ | refine r_field rfl ?_)
  refine r_make (l := 4) (c := 4) rfl rfl rfl rfl (by decide) (by decide) (by decide) ?_
  intro w3 gc k3 hgc hgcs
  replace hgc : Blk w3 gc 34 (flat [zTri, zTri, zTri, zTri]) := by
    have e := made_flat (.bool false) (.slice none 0 0) (.slice none 0 0) 4
    exact e ▸ hgc
  have hgsl := hgs.lt
  replace hgs := hgs.to k3
  repeat (first | refine r_nilCheck rfl ?_ | refine r_field rfl ?_)
  refine r_store (i := 1) (u := .slice (some ⟨gc, 0, none⟩) 4 4) rfl rfl hgs (show 1 < 5 by decide) rfl ?_
  intro w4 k4 hgs4
  have hgc4 := hgc.wr k4 (by omega)
  have k : Ext w1 w4 := (Keeps.past (k2.trans k3) k4 hgss)
  replace hl2 := hl.to k
  replace hb2 := hb.to k
  replace hbb2 := hbb.to k
  replace h1 := h1.to k
  replace h2 := h2.to k
  replace hB := hB.to k
  repeat (first | refine wp_seq_region ?_ | refine wp_seq_seq ?_ | refine wp_region ?_ | refine r_move (by conv => (lhs; whnf)) ?_ | refine r_nil ?_ | refine q_then ?_ | refine r_len_sl rfl ?_)
  try refine wp_seq_block ?_
  refine unr_for 3 ?_
  repeat (first | refine unr_step ?_ | refine r_load_blk rfl hl2 rfl ?_ | refine wp_seq_region ?_ | refine wp_seq_bseq ?_ | refine wp_region ?_ | refine r_move (by conv => (lhs; whnf)) ?_ | refine r_assign (by conv => (lhs; whnf)) ?_ | refine r_nil ?_ | refine q_then ?_ | refine wp_block_seq ?_ | refine wp_skip ?_ | refine r_lss rfl rfl ?_ | refine r_index_sl rfl rfl (by omega) (by omega) ?_ | refine wp_if_yes rfl (by omega) ?_)
  refine r_make (l := 4) (c := 4) rfl rfl rfl rfl (by decide) (by decide) (by decide) ?_
  intro w5 go k5 hgo hgos
  replace hgo : Blk w5 go 34 (flat [zTri, zTri, zTri, zTri]) := by
    have e := made_flat (.bool false) (.slice none 0 0) (.slice none 0 0) 4
    exact e ▸ hgo
  have hgcl := hgc4.lt
  replace hgs := hgs4.to k5
  replace hgc := hgc4.to k5
  replace k := k.trans k5
  replace hl2 := hl2.to k5
  replace hb2 := hb2.to k5
  replace hbb2 := hbb2.to k5
  replace h1 := h1.to k5
  replace h2 := h2.to k5
  replace hB := hB.to k5
  clear k2 k3 k4 k5 hgs4 hgc4
  repeat (first | refine wp_seq_region ?_ | refine wp_region ?_ | refine r_move (by conv => (lhs; whnf)) ?_ | refine r_assign (by conv => (lhs; whnf)) ?_ | refine r_nil ?_ | refine r_index_sl rfl rfl (by omega) (by omega) ?_)
  refine r_load_tri 0 rfl (by decide) hbb2 rfl ?_
  refine r_call (rsign_c hB) rfl ?_
  rintro v6 w6 ⟨rfl, k6⟩
  replace hgs := hgs.to k6
  replace hgc := hgc.to k6
  replace hgo := hgo.to k6
  replace k := k.trans k6
  replace hl2 := hl2.to k6
  replace hb2 := hb2.to k6
  replace hbb2 := hbb2.to k6
  replace h1 := h1.to k6
  replace h2 := h2.to k6
  replace hB := hB.to k6
  have hgsle : w1.heap.size ≤ gs := hgss
  have hgcle : w1.heap.size ≤ gc := by omega
  have hgole : w1.heap.size ≤ go := by omega
  have hne1 : gs ≠ gc := by omega
  have hne2 : gs ≠ go := by omega
  have hne3 : gc ≠ go := by omega
  clear hgss hgcs hgos hgsl hgcl k6 hl2 hbb2
  repeat (first | refine wp_seq_region ?_ | refine wp_seq_seq ?_ | refine wp_region ?_ | refine r_move (by conv => (lhs; whnf)) ?_ | refine r_assign (by conv => (lhs; whnf)) ?_ | refine r_nil ?_ | refine q_then ?_ | refine r_len_sl rfl ?_ | refine r_lss rfl rfl ?_)
  first | refine wp_seq_block ?_ | refine wp_thenB ?_ | refine wp_thenBB ?_ | skip
  refine wp_mid [(11, 12), (47, 62)] (fun ρ w' => ∃ n0 n1, Ext w1 w' ∧ Blk w' gs 169 [.slice none 0 0, .slice (some ⟨gc, 0, none⟩) 4 4, .slice none 0 0, .int .i64 2, .slice none 0 0] ∧ Blk w' gc 34 (flat [zTri, zTri, zTri, zTri]) ∧ Blk w' go 34 (flat [n0, n1, zTri, zTri]) ∧ RatV S w' n0.val (-1) ∧ RatV S w' n1.val (-1)) ?_ ?_
  · try refine wp_seq_block ?_
    refine unr_for 4 ?_
    repeat (first | refine unr_step ?_ | refine r_load_tri 0 rfl (by decide) hb2 rfl ?_ | refine wp_seq_region ?_ | refine wp_seq_bseq ?_ | refine wp_region ?_ | refine r_move (by conv => (lhs; whnf)) ?_ | refine r_nil ?_ | refine q_then ?_ | refine wp_block_seq ?_ | refine wp_skip ?_ | refine r_lss rfl rfl ?_ | refine r_index_sl rfl rfl (by omega) (by omega) ?_ | refine wp_if_yes rfl (by omega) ?_)
    refine r_alloc (cs := [.bool false, .slice none 0 0, .slice none 0 0]) rfl ?_
    intro w7 gx0 k7 hgx0 hgxs0
    have hgol0 := hgo.lt
    have hgsl0 := hgs.lt
    have hgcl0 := hgc.lt
    have hsz7 := k7.size
    have hksz7 := k.size
    replace hgs := hgs.to k7
    replace hgc := hgc.to k7
    replace hgo := hgo.to k7
    replace h1 := h1.to k7
    replace h2 := h2.to k7
    replace hB := hB.to k7
    replace k := k.trans k7
    have ho0 := h1.ones
    repeat (first | refine r_assign (by conv => (lhs; whnf)) ?_)
    refine r_store3 rfl rfl hgx0 rfl ho0.1 ho0.2.1 ho0.2.2 ?_
    intro w8 k8 hgy0
    replace k := k.past k8 (by omega)
    replace h1 := h1.wrT k8 hgx0 (by decide)
    replace h2 := h2.wrT k8 hgx0 (by decide)
    replace hB := hB.wrT k8 hgx0 (by decide)
    replace hgs := hgs.wr k8 (by omega)
    replace hgc := hgc.wr k8 (by omega)
    replace hgo := hgo.wr k8 (by omega)
    have hgyv0 : Blk w8 gx0 34 (flat [t1]) := hgy0
    clear k7 k8 hgx0 hgy0
    repeat (first | refine r_load_tri 0 rfl (by decide) hgyv0 rfl ?_ | refine wp_seq_region ?_ | refine wp_region ?_ | refine r_move (by conv => (lhs; whnf)) ?_ | refine r_nil ?_ | refine r_index_sl rfl rfl (by omega) (by omega) ?_)
    refine r_store_tri (u := t1) 0 rfl (by decide) rfl hgo (by simp) ho0.1 ho0.2.1 ho0.2.2 ?_
    intro w9 k9 hgo0
    replace k := k.past k9 (by omega)
    replace h1 := h1.wrT k9 hgo (by decide)
    replace h2 := h2.wrT k9 hgo (by decide)
    replace hB := hB.wrT k9 hgo (by decide)
    replace hgs := hgs.wr k9 (by omega)
    replace hgc := hgc.wr k9 (by omega)
    replace hgyv0 := hgyv0.wr k9 (by omega)
    replace hgo := hgo0
    clear k9 hgo0
    repeat (first | refine wp_seq_region ?_ | refine wp_region ?_ | refine r_move (by conv => (lhs; whnf)) ?_ | refine r_nil ?_ | refine q_then ?_)
    first | refine wp_cond_yes rfl (by decide) ?_ | refine wp_if_yes rfl (by decide) ?_ | skip
    repeat (first | refine r_load_tri 0 rfl (by decide) hgyv0 rfl ?_ | refine wp_region ?_ | refine r_move (by conv => (lhs; whnf)) ?_)
    refine r_call (rneg_c (v := Tri.val t1) h1) rfl ?_
    rintro v10 w10 ⟨k10, hn0⟩
    obtain ⟨n0, rfl, hn0, p0, q0, r0⟩ := RatV.tri hn0
    replace hgs := hgs.to k10
    replace hgc := hgc.to k10
    replace hgo := hgo.to k10
    replace h1 := h1.to k10
    replace h2 := h2.to k10
    replace hB := hB.to k10
    replace k := k.trans k10
    repeat (first | refine r_index_sl rfl rfl (by omega) (by omega) ?_)
    refine r_store_tri (u := n0) 0 rfl (by decide) rfl hgo (by simp) p0 q0 r0 ?_
    intro w11 k11 hgo0
    replace k := k.past k11 (by omega)
    replace h1 := h1.wrT k11 hgo (by decide)
    replace h2 := h2.wrT k11 hgo (by decide)
    replace hB := hB.wrT k11 hgo (by decide)
    replace hn0 := hn0.wrT k11 hgo (by decide)
    replace hgs := hgs.wr k11 (by omega)
    replace hgc := hgc.wr k11 (by omega)
    replace hgo := hgo0
    replace hb2 := hb.to k
    clear k10 k11 hgo0 hgyv0 hgol0 hgsl0 hgcl0 hgxs0 hsz7 hksz7
    repeat (first | refine unr_step ?_ | refine r_load_tri 1 rfl (by decide) hb2 rfl ?_ | refine wp_seq_region ?_ | refine wp_seq_bseq ?_ | refine wp_region ?_ | refine r_move (by conv => (lhs; whnf)) ?_ | refine r_nil ?_ | refine q_then ?_ | refine wp_block_seq ?_ | refine wp_skip ?_ | refine r_lss rfl rfl ?_ | refine r_addI rfl rfl (by omega) (by omega) ?_ | refine r_index_sl rfl rfl (by omega) (by omega) ?_ | refine wp_if_yes rfl (by omega) ?_)
    refine r_alloc (cs := [.bool false, .slice none 0 0, .slice none 0 0]) rfl ?_
    intro w12 gx1 k12 hgx1 hgxs1
    have hgol1 := hgo.lt
    have hgsl1 := hgs.lt
    have hgcl1 := hgc.lt
    have hsz12 := k12.size
    have hksz12 := k.size
    replace hgs := hgs.to k12
    replace hgc := hgc.to k12
    replace hgo := hgo.to k12
    replace h1 := h1.to k12
    replace h2 := h2.to k12
    replace hB := hB.to k12
    replace hn0 := hn0.to k12
    replace k := k.trans k12
    have ho1 := h2.ones
    repeat (first | refine r_assign (by conv => (lhs; whnf)) ?_)
    refine r_store3 rfl rfl hgx1 rfl ho1.1 ho1.2.1 ho1.2.2 ?_
    intro w13 k13 hgy1
    replace k := k.past k13 (by omega)
    replace h1 := h1.wrT k13 hgx1 (by decide)
    replace h2 := h2.wrT k13 hgx1 (by decide)
    replace hB := hB.wrT k13 hgx1 (by decide)
    replace hn0 := hn0.wrT k13 hgx1 (by decide)
    replace hgs := hgs.wr k13 (by omega)
    replace hgc := hgc.wr k13 (by omega)
    replace hgo := hgo.wr k13 (by omega)
    have hgyv1 : Blk w13 gx1 34 (flat [t2]) := hgy1
    clear k12 k13 hgx1 hgy1
    repeat (first | refine r_load_tri 0 rfl (by decide) hgyv1 rfl ?_ | refine wp_seq_region ?_ | refine wp_region ?_ | refine r_move (by conv => (lhs; whnf)) ?_ | refine r_nil ?_ | refine r_index_sl rfl rfl (by omega) (by omega) ?_)
    refine r_store_tri (u := t2) 1 rfl (by decide) rfl hgo (by simp) ho1.1 ho1.2.1 ho1.2.2 ?_
    intro w14 k14 hgo1
    replace k := k.past k14 (by omega)
    replace h1 := h1.wrT k14 hgo (by decide)
    replace h2 := h2.wrT k14 hgo (by decide)
    replace hB := hB.wrT k14 hgo (by decide)
    replace hn0 := hn0.wrT k14 hgo (by decide)
    replace hgs := hgs.wr k14 (by omega)
    replace hgc := hgc.wr k14 (by omega)
    replace hgyv1 := hgyv1.wr k14 (by omega)
    replace hgo := hgo1
    clear k14 hgo1
    repeat (first | refine wp_seq_region ?_ | refine wp_region ?_ | refine r_move (by conv => (lhs; whnf)) ?_ | refine r_nil ?_ | refine q_then ?_)
    first | refine wp_cond_yes rfl (by decide) ?_ | refine wp_if_yes rfl (by decide) ?_ | skip
    repeat (first | refine r_load_tri 0 rfl (by decide) hgyv1 rfl ?_ | refine wp_region ?_ | refine r_move (by conv => (lhs; whnf)) ?_)
    refine r_call (rneg_c (v := Tri.val t2) h2) rfl ?_
    rintro v15 w15 ⟨k15, hn1⟩
    obtain ⟨n1, rfl, hn1, p1, q1, r1⟩ := RatV.tri hn1
    replace hgs := hgs.to k15
    replace hgc := hgc.to k15
    replace hgo := hgo.to k15
    replace h1 := h1.to k15
    replace h2 := h2.to k15
    replace hB := hB.to k15
    replace hn0 := hn0.to k15
    replace k := k.trans k15
    repeat (first | refine r_index_sl rfl rfl (by omega) (by omega) ?_)
    refine r_store_tri (u := n1) 1 rfl (by decide) rfl hgo (by simp) p1 q1 r1 ?_
    intro w16 k16 hgo1
    replace k := k.past k16 (by omega)
    replace h1 := h1.wrT k16 hgo (by decide)
    replace h2 := h2.wrT k16 hgo (by decide)
    replace hB := hB.wrT k16 hgo (by decide)
    replace hn1 := hn1.wrT k16 hgo (by decide)
    replace hn0 := hn0.wrT k16 hgo (by decide)
    replace hgs := hgs.wr k16 (by omega)
    replace hgc := hgc.wr k16 (by omega)
    replace hgo := hgo1
    replace hb2 := hb.to k
    clear k15 k16 hgo1 hgyv1 hgol1 hgsl1 hgcl1 hgxs1 hsz12 hksz12
    repeat (first | refine unr_step ?_ | refine wp_seq_region ?_ | refine wp_region ?_ | refine r_move (by conv => (lhs; whnf)) ?_ | refine r_nil ?_ | refine q_then ?_ | refine wp_exit ?_ | refine q_then_exit ?_ | refine q_block_hit rfl ?_ | refine r_lss rfl rfl ?_ | refine r_addI rfl rfl (by omega) (by omega) ?_ | refine wp_if_no rfl (by omega) ?_)
    exact ⟨by (repeat (first | refine agree_upd rfl ?_ | exact agree_over | refine agree_sub rfl ?_ | exact agree_refl | refine agree_base rfl ?_ | refine agree_base' rfl ?_)), n0, n1, k, hgs, hgc, hgo, hn0, hn1⟩
  rintro u w2 ⟨n0, n1, k, hgs, hgc, hgo, hn0, hn1⟩
  refine wp_fresh [(0, .slice (some ⟨gl, 0, none⟩) 1 1), (1, .slice (some ⟨gb, 0, none⟩) 1 capb), (5, .pointer (some ⟨gs, 0, none⟩)), (6, .int .i64 4), (7, .int .i64 0), (9, .slice (some ⟨go, 0, none⟩) 4 4), (10, .bool (tst ((-1 : Rat).num.sign < 0))), (30, .slice (some ⟨gl, 0, none⟩) 1 1), (31, .int .i64 1), (32, .int .i64 0)] ⟨rfl, rfl, rfl, rfl, rfl, rfl, rfl, rfl, rfl, rfl, trivial⟩ ?_
  intro u3
  have hS2 := hS.to k
  have hB := hB0.to k
  have hb3 := hbb.to k
  repeat (first | refine wp_seq_region ?_)
  refine wp_drawn 9 (by kernel_rfl) (by kernel_rfl) ?_
  apply ob_step
  · intro x w1 k1 hd
    refine r_move (by conv => (lhs; whnf)) ?_
    refine r_nil ?_
    exact ob_eq
  apply ob_step
  · intro x w1 k1 hd
    refine r_move (by conv => (lhs; whnf)) ?_
    refine r_nil ?_
    exact ob_eq
  apply ob_step
  · intro x w1 k1 hd
    refine r_nilCheck rfl ?_
    refine r_nil ?_
    exact ob_eq
  apply ob_step
  · intro x w1 k1 hd
    refine r_field rfl ?_
    refine r_nil ?_
    exact ob_eq
  apply ob_step
  · intro x w1 k1 hd
    refine r_load_blk rfl (hgs.to k1) rfl ?_
    refine r_nil ?_
    exact ob_eq
  apply ob_step
  · intro x w1 k1 hd
    refine r_move (by conv => (lhs; whnf)) ?_
    refine r_nil ?_
    exact ob_eq
  apply ob_step
  · intro x w1 k1 hd
    refine r_addI rfl rfl (by omega) (by omega) ?_
    refine r_nil ?_
    exact ob_eq
  refine ob_step (e := ratE S ((1 : Int) : Rat)) ?_ ?_
  · intro x w1 k1 hd
    refine r_call (of_c (z := 1) (hS2.to k1) (by decide) (by decide)) rfl ?_
    rintro v2 w2 ⟨k2, h2⟩
    exact r_nil (ob_of k2 h2)
  apply ob_step
  · intro x w1 k1 hd
    refine r_index_sl rfl rfl (by omega) (by omega) ?_
    refine r_nil ?_
    exact ob_eq
  refine ob_nil (ob_end ?_)
  intro x w3 k3 hall
  obtain ⟨t3, hv3, h3, o1, o2, o3⟩ := RatV.tri (show RatV S w3 (x 7) ((1 : Int) : Rat) from hall.2.1)
  replace hgs := hgs.to k3
  replace hgc := hgc.to k3
  replace hgo := hgo.to k3
  replace hb3 := hb3.to k3
  replace hn0 := hn0.to k3
  replace hn1 := hn1.to k3
  replace hB := hB.to k3
  replace k := k.trans k3
  refine r_store_tri (u := t3) 2 rfl (by decide) hv3 hgo (by simp) o1 o2 o3 ?_
  intro w4 k4 hgo4
  replace k := k.past k4 hgole
  replace hn0 := hn0.wrT k4 hgo (by decide)
  replace hn1 := hn1.wrT k4 hgo (by decide)
  replace hB := hB.wrT k4 hgo (by decide)
  replace h3 := h3.wrT k4 hgo (by decide)
  have hgb : w1.heap.size > gb := hbb.lt
  replace hgs := hgs.wr k4 (by omega)
  replace hgc := hgc.wr k4 (by omega)
  replace hb3 := hb3.wr k4 (by omega)
  replace hgo : Blk w4 go 34 (flat [n0, n1, t3, zTri]) := hgo4
  clear k3 k4 hall hgo4
  have oB := hB.ones
  repeat (first | refine r_load_tri 0 rfl (by decide) hb3 rfl ?_ | refine wp_seq_region ?_ | refine wp_seq_seq ?_ | refine wp_region ?_ | refine r_move (by conv => (lhs; whnf)) ?_ | refine r_nil ?_ | refine r_subI rfl rfl (by omega) (by omega) ?_ | refine r_index_sl rfl rfl (by omega) (by omega) ?_)
  refine r_store_tri (u := tb) 3 rfl (by decide) rfl hgo (by simp) oB.1 oB.2.1 oB.2.2 ?_
  intro w5 k5 hgo5
  replace k := k.past k5 hgole
  replace hn0 := hn0.wrT k5 hgo (by decide)
  replace hn1 := hn1.wrT k5 hgo (by decide)
  replace hB := hB.wrT k5 hgo (by decide)
  replace h3 := h3.wrT k5 hgo (by decide)
  replace hgs := hgs.wr k5 (by omega)
  replace hgc := hgc.wr k5 (by omega)
  replace hb3 := hb3.wr k5 (by omega)
  replace hgo : Blk w5 go 34 (flat [n0, n1, t3, tb]) := hgo5
  clear k5 hgo5
  repeat (first | refine wp_seq_region ?_ | refine wp_region ?_ | refine r_move (by conv => (lhs; whnf)) ?_ | refine r_nil ?_ | refine q_then ?_)
  first | refine wp_cond_yes rfl (by decide) ?_ | refine wp_if_yes rfl (by decide) ?_ | skip
  repeat (first | refine r_load_tri 0 rfl (by decide) hb3 rfl ?_ | refine wp_region ?_ | refine r_move (by conv => (lhs; whnf)) ?_ | refine r_subI rfl rfl (by omega) (by omega) ?_ | refine r_index_sl rfl rfl (by omega) (by omega) ?_)
  refine r_call (rneg_c (v := tb.val) hB) rfl ?_
  rintro v6 w6 ⟨k6, hn3⟩
  obtain ⟨n3, rfl, hn3, o31, o32, o33⟩ := RatV.tri hn3
  replace hgs := hgs.to k6
  replace hgc := hgc.to k6
  replace hgo := hgo.to k6
  replace hn0 := hn0.to k6
  replace hn1 := hn1.to k6
  replace h3 := h3.to k6
  replace k := k.trans k6
  repeat (first | refine r_index_sl rfl rfl (by omega) (by omega) ?_)
  refine r_store_tri (u := n3) 3 rfl (by decide) rfl hgo (by simp) o31 o32 o33 ?_
  intro w7 k7 hgo7
  replace k := k.past k7 hgole
  replace hn0 := hn0.wrT k7 hgo (by decide)
  replace hn1 := hn1.wrT k7 hgo (by decide)
  replace h3 := h3.wrT k7 hgo (by decide)
  replace hn3 := hn3.wrT k7 hgo (by decide)
  replace hgs := hgs.wr k7 (by omega)
  replace hgc := hgc.wr k7 (by omega)
  replace hgo : Blk w7 go 34 (flat [n0, n1, t3, n3]) := hgo7
  clear k6 k7 hgo7 hb3 hB
  repeat (first | refine r_load_blk rfl hgs rfl ?_ | refine wp_seq_region ?_ | refine wp_region ?_ | refine r_move (by conv => (lhs; whnf)) ?_ | refine r_nil ?_ | refine r_field rfl ?_ | refine r_nilCheck rfl ?_)
  refine r_lit1 (v := .slice (some ⟨go, 0, none⟩) 4 4) rfl rfl ?_
  intro w8 g8 k8 hg8 hgs8
  skip
  have hb8 := hg8.lt
  refine r_append1 (base := g8) (m := 0) (xs := []) (cs := [.slice (some ⟨go, 0, none⟩) 4 4]) rfl own_nil rfl hg8 (show 0 < 1 by decide) rfl (fun v hv => by simp only [List.mem_singleton] at hv; subst hv; rfl) (by decide) (by decide) (by omega) ?_
  intro rows w9 hrows k9
  have k9' : Ext w8 w9 := k9.mono fun i _ e => by cases e
  have hro : rows.oneCell' = true := by
    rcases hrows.2 with ⟨hv, _⟩ | ⟨g, cap, cur, hv, _⟩ <;> rw [hv] <;> rfl
  clear hrows k9
  replace hgs := hgs.to k8
  replace hgc := hgc.to k8
  replace hgo := hgo.to k8
  replace hn0 := hn0.to k8
  replace hn1 := hn1.to k8
  replace h3 := h3.to k8
  replace hn3 := hn3.to k8
  replace hgs := hgs.to k9'
  replace hgc := hgc.to k9'
  replace hgo := hgo.to k9'
  replace hn0 := hn0.to k9'
  replace hn1 := hn1.to k9'
  replace h3 := h3.to k9'
  replace hn3 := hn3.to k9'
  replace k := (k.trans k8).trans k9'
  repeat (first | refine r_field rfl ?_ | refine r_nilCheck rfl ?_)
  refine r_store (i := 0) (u := rows) rfl rfl hgs (show 0 < 5 by decide) hro ?_
  intro w10 k10 hgs10
  replace k := k.past k10 hgsle
  replace hn0 := hn0.wrT k10 hgs (by decide)
  replace hn1 := hn1.wrT k10 hgs (by decide)
  replace h3 := h3.wrT k10 hgs (by decide)
  replace hn3 := hn3.wrT k10 hgs (by decide)
  replace hgc := hgc.wr k10 (by omega)
  replace hgo := hgo.wr k10 (by omega)
  replace hgs : Blk w10 gs 169 [rows, .slice (some ⟨gc, 0, none⟩) 4 4, .slice none 0 0, .int .i64 2, .slice none 0 0] := hgs10
  clear k8 k9' k10 hgs10 hg8 hgs8 hb8
  repeat (first | refine wp_seq_region ?_ | refine r_nil ?_)
  refine wp_drawn 15 (by kernel_rfl) (by kernel_rfl) ?_
  apply ob_step
  · intro x w1 k1 hd
    refine r_move (by conv => (lhs; whnf)) ?_
    refine r_nil ?_
    exact ob_eq
  apply ob_step
  · intro x w1 k1 hd
    refine r_move (by conv => (lhs; whnf)) ?_
    refine r_nil ?_
    exact ob_eq
  apply ob_step
  · intro x w1 k1 hd
    refine r_nilCheck rfl ?_
    refine r_nil ?_
    exact ob_eq
  apply ob_step
  · intro x w1 k1 hd
    refine r_field rfl ?_
    refine r_nil ?_
    exact ob_eq
  apply ob_step
  · intro x w1 k1 hd
    refine r_load_blk rfl (hgs.to k1) rfl ?_
    refine r_nil ?_
    exact ob_eq
  apply ob_step
  · intro x w1 k1 hd
    refine r_move (by conv => (lhs; whnf)) ?_
    refine r_nil ?_
    exact ob_eq
  apply ob_step
  · intro x w1 k1 hd
    refine r_nilCheck rfl ?_
    refine r_nil ?_
    exact ob_eq
  apply ob_step
  · intro x w1 k1 hd
    refine r_field rfl ?_
    refine r_nil ?_
    exact ob_eq
  apply ob_step
  · intro x w1 k1 hd
    refine r_load_blk rfl (hgs.to k1) rfl ?_
    refine r_nil ?_
    exact ob_eq
  apply ob_step
  · intro x w1 k1 hd
    refine r_move (by conv => (lhs; whnf)) ?_
    refine r_nil ?_
    exact ob_eq
  apply ob_step
  · intro x w1 k1 hd
    refine r_addI rfl rfl (by omega) (by omega) ?_
    refine r_nil ?_
    exact ob_eq
  refine ob_step (e := Ent.of (fun v w => ∃ g, v = .slice (some ⟨g, 0, none⟩) 1 1 ∧ Blk w g 3 [.int .i64 2]) (fun v w w' ⟨g, h, hb⟩ k => ⟨g, h, hb.to k⟩)) ?_ ?_
  · intro x w1 k1 hd
    refine r_lit1 (v := .int .i64 2) rfl rfl ?_
    intro w2 g2 k2 hg2 _
    exact r_nil (ob_of k2 ⟨g2, rfl, hg2⟩)
  refine ob_step (e := Ent.of (fun v w => v.oneCell' = true) (fun v w w' h k => h)) ?_ ?_
  · intro x w1 k1 hd
    obtain ⟨g2, hx2, hg2⟩ : ∃ g, x 11 = .slice (some ⟨g, 0, none⟩) 1 1 ∧ Blk w1 g 3 [.int .i64 2] := hd.1
    have hl2 := hg2.lt
    refine r_append1 (base := g2) (m := 0) (xs := []) (cs := [.int .i64 2]) rfl own_nil hx2 hg2 (by decide) rfl (fun v hv => by simp only [List.mem_singleton] at hv; subst hv; rfl) (by decide) (by decide) (by omega) ?_
    intro v3 w3 h3 k3
    refine r_nil (ob_of (k3.mono fun i _ e => by cases e) ?_)
    rcases h3.2 with ⟨hv, _⟩ | ⟨g, cap, cur, hv, _⟩ <;> rw [hv] <;> rfl
  apply ob_step
  · intro x w1 k1 hd
    refine r_nilCheck rfl ?_
    refine r_nil ?_
    exact ob_eq
  apply ob_step
  · intro x w1 k1 hd
    refine r_field rfl ?_
    refine r_nil ?_
    exact ob_eq
  refine ob_nil (ob_end ?_)
  intro x w11 k11 hall
  have hbo : (x 12).oneCell' = true := hall.2.2.1
  replace hgs := hgs.to k11
  replace hgc := hgc.to k11
  replace hgo := hgo.to k11
  replace hn0 := hn0.to k11
  replace hn1 := hn1.to k11
  replace h3 := h3.to k11
  replace hn3 := hn3.to k11
  replace k := k.trans k11
  refine r_store (i := 2) (u := x 12) rfl rfl hgs (show 2 < 5 by decide) hbo ?_
  intro w12 k12 hgs12
  replace k := k.past k12 hgsle
  replace hn0 := hn0.wrT k12 hgs (by decide)
  replace hn1 := hn1.wrT k12 hgs (by decide)
  replace h3 := h3.wrT k12 hgs (by decide)
  replace hn3 := hn3.wrT k12 hgs (by decide)
  replace hgc := hgc.wr k12 (by omega)
  replace hgo := hgo.wr k12 (by omega)
  replace hgs : Blk w12 gs 169 [rows, .slice (some ⟨gc, 0, none⟩) 4 4, x 12, .int .i64 2, .slice none 0 0] := hgs12
  clear k11 k12 hgs12 hall
  generalize x 12 = basic at *
  repeat (first | refine r_load_blk rfl hgs rfl ?_ | refine wp_seq_region ?_ | refine wp_region ?_ | refine r_move (by conv => (lhs; whnf)) ?_ | refine r_nil ?_ | refine r_field rfl ?_ | refine r_nilCheck rfl ?_)
  refine r_lit1 (v := .bool (tst ((-1 : Rat).num.sign < 0))) rfl rfl ?_
  intro w13 g13 k13 hg13 hgs13
  skip
  refine r_append1 (base := w1.heap.size) (m := 0) (xs := []) (cs := [.bool (tst ((-1 : Rat).num.sign < 0))]) rfl own_nil rfl hg13 (by decide) rfl (fun v hv => by simp only [List.mem_singleton] at hv; subst hv; rfl) (by decide) (by decide) (by have := k.size; have := k13.size; omega) ?_
  intro sg w14 hsg k14
  have k14' : Ext w13 w14 := k14.mono fun i _ e => by cases e
  obtain ⟨gg, capg, cs, rfl, hgg, hggs⟩ : ∃ gg capg cs, sg = .slice (some ⟨gg, 0, none⟩) 1 capg ∧ Blk w14 gg 4 (.bool true :: cs) ∧ w1.heap.size ≤ gg := by
    rcases hsg.2 with ⟨hv, h0⟩ | ⟨g, cap, cur, hv, hb, hg, hn, hm, hc, htk⟩
    · omega
    · have hcur : cur.toList = .bool true :: cur.toList.drop 1 := by
        have e1 : cur.toList.take 1 = [.bool true] := by
          have : cur.toList.take (1 * 1) = [] ++ [Value.bool (tst ((-1 : Rat).num.sign < 0))] := htk
          rw [tst_true (by decide)] at this
          simpa using this
        rw [← List.take_append_drop 1 cur.toList, e1]
        rfl
      refine ⟨g, cap, cur.toList.drop 1, hv, ?_, hb⟩
      unfold Blk
      rw [← hcur]
      simpa using hg
  clear hsg k14
  replace hgs := hgs.to k13
  replace hgc := hgc.to k13
  replace hgo := hgo.to k13
  replace hn0 := hn0.to k13
  replace hn1 := hn1.to k13
  replace h3 := h3.to k13
  replace hn3 := hn3.to k13
  replace hgs := hgs.to k14'
  replace hgc := hgc.to k14'
  replace hgo := hgo.to k14'
  replace hn0 := hn0.to k14'
  replace hn1 := hn1.to k14'
  replace h3 := h3.to k14'
  replace hn3 := hn3.to k14'
  have hk14 : w1.heap.size ≤ w14.heap.size := by have := k.size; have := k13.size; have := k14'.size; omega
  replace k := (k.trans k13).trans k14'
  have hne4 : gs ≠ gg := hgs.ne hgg (by decide)
  repeat (first | refine r_field rfl ?_ | refine r_nilCheck rfl ?_)
  refine r_store (i := 4) (u := .slice (some ⟨gg, 0, none⟩) 1 capg) rfl rfl hgs (show 4 < 5 by decide) rfl ?_
  intro w15 k15 hgs15
  replace k := k.past k15 hgsle
  replace hn0 := hn0.wrT k15 hgs (by decide)
  replace hn1 := hn1.wrT k15 hgs (by decide)
  replace h3 := h3.wrT k15 hgs (by decide)
  replace hn3 := hn3.wrT k15 hgs (by decide)
  replace hgc := hgc.wr k15 (by omega)
  replace hgo := hgo.wr k15 (by omega)
  replace hgg := hgg.wr k15 (by omega)
  replace hgs : Blk w15 gs 169 [rows, .slice (some ⟨gc, 0, none⟩) 4 4, basic, .int .i64 2, .slice (some ⟨gg, 0, none⟩) 1 capg] := hgs15
  clear k13 k14' k15 hgs15 hg13 hgs13
  have hS15 := hS.to k
  repeat (first | refine wp_seq_region ?_ | refine r_nil ?_)
  refine wp_drawn 25 (by kernel_rfl) (by kernel_rfl) ?_
  apply ob_step
  · intro x w1 k1 hd
    refine r_move (by conv => (lhs; whnf)) ?_
    refine r_nil ?_
    exact ob_eq
  apply ob_step
  · intro x w1 k1 hd
    refine r_nilCheck rfl ?_
    refine r_nil ?_
    exact ob_eq
  apply ob_step
  · intro x w1 k1 hd
    refine r_field rfl ?_
    refine r_nil ?_
    exact ob_eq
  apply ob_step
  · intro x w1 k1 hd
    refine r_load_blk rfl (hgs.to k1) rfl ?_
    refine r_nil ?_
    exact ob_eq
  apply ob_step
  · intro x w1 k1 hd
    refine r_move (by conv => (lhs; whnf)) ?_
    refine r_nil ?_
    exact ob_eq
  apply ob_step
  · intro x w1 k1 hd
    refine r_nilCheck rfl ?_
    refine r_nil ?_
    exact ob_eq
  apply ob_step
  · intro x w1 k1 hd
    refine r_field rfl ?_
    refine r_nil ?_
    exact ob_eq
  apply ob_step
  · intro x w1 k1 hd
    refine r_load_blk rfl (hgs.to k1) rfl ?_
    refine r_nil ?_
    exact ob_eq
  apply ob_step
  · intro x w1 k1 hd
    refine r_move (by conv => (lhs; whnf)) ?_
    refine r_nil ?_
    exact ob_eq
  apply ob_step
  · intro x w1 k1 hd
    refine r_addI rfl rfl (by omega) (by omega) ?_
    refine r_nil ?_
    exact ob_eq
  apply ob_step
  · intro x w1 k1 hd
    refine r_move (by conv => (lhs; whnf)) ?_
    refine r_nil ?_
    exact ob_eq
  apply ob_step
  · intro x w1 k1 hd
    refine r_nilCheck rfl ?_
    refine r_nil ?_
    exact ob_eq
  apply ob_step
  · intro x w1 k1 hd
    refine r_field rfl ?_
    refine r_nil ?_
    exact ob_eq
  apply ob_step
  · intro x w1 k1 hd
    refine r_load_blk rfl (hgs.to k1) rfl ?_
    refine r_nil ?_
    exact ob_eq
  apply ob_step
  · intro x w1 k1 hd
    refine r_move (by conv => (lhs; whnf)) ?_
    refine r_nil ?_
    exact ob_eq
  apply ob_step
  · intro x w1 k1 hd
    refine r_nilCheck rfl ?_
    refine r_nil ?_
    exact ob_eq
  apply ob_step
  · intro x w1 k1 hd
    refine r_field rfl ?_
    refine r_nil ?_
    exact ob_eq
  apply ob_step
  · intro x w1 k1 hd
    refine r_load_blk rfl (hgs.to k1) rfl ?_
    refine r_nil ?_
    exact ob_eq
  apply ob_step
  · intro x w1 k1 hd
    refine r_move (by conv => (lhs; whnf)) ?_
    refine r_nil ?_
    exact ob_eq
  apply ob_step
  · intro x w1 k1 hd
    refine r_addI rfl rfl (by omega) (by omega) ?_
    refine r_nil ?_
    exact ob_eq
  apply ob_step
  · intro x w1 k1 hd
    refine r_index_sl rfl rfl (by omega) (by omega) ?_
    refine r_nil ?_
    exact ob_eq
  apply ob_step
  · intro x w1 k1 hd
    refine r_load_tri 2 rfl (by decide) (hgc.to k1) rfl ?_
    refine r_nil ?_
    exact ob_eq
  refine ob_step (e := ratE S ((1 : Int) : Rat)) ?_ ?_
  · intro x w1 k1 hd
    refine r_call (of_c (z := 1) (hS15.to k1) (by decide) (by decide)) rfl ?_
    rintro v2 w2 ⟨k2, h2⟩
    exact r_nil (ob_of k2 h2)
  refine ob_step (e := ratE S (0 + ((1 : Int) : Rat))) ?_ ?_
  · intro x w1 k1 hd
    refine r_call (rplus_c (va := zTri.val) (hS15.to k1) zTri_rat hd.1 rl_zero (rl_one (by decide))) rfl ?_
    rintro v2 w2 ⟨k2, h2⟩
    exact r_nil (ob_of k2 h2)
  apply ob_step
  · intro x w1 k1 hd
    refine r_index_sl rfl rfl (by omega) (by omega) ?_
    refine r_nil ?_
    exact ob_eq
  refine ob_nil (ob_end ?_)
  intro x w16 k16 hall
  obtain ⟨t16, hv16, h16, p1, p2, p3⟩ := RatV.tri (show RatV S w16 (x 23) (0 + ((1 : Int) : Rat)) from hall.2.1)
  replace hgs := hgs.to k16
  replace hgc := hgc.to k16
  replace hgo := hgo.to k16
  replace hgg := hgg.to k16
  replace hn0 := hn0.to k16
  replace hn1 := hn1.to k16
  replace h3 := h3.to k16
  replace hn3 := hn3.to k16
  replace k := k.trans k16
  refine r_store_tri (u := t16) 2 rfl (by decide) hv16 hgc (by simp) p1 p2 p3 ?_
  intro w17 k17 hgc17
  replace k := k.past k17 hgcle
  have hne5 : gc ≠ gg := hgc.ne hgg (by decide)
  replace hn0 := hn0.wrT k17 hgc (by decide)
  replace hn1 := hn1.wrT k17 hgc (by decide)
  replace h3 := h3.wrT k17 hgc (by decide)
  replace hn3 := hn3.wrT k17 hgc (by decide)
  replace h16 := h16.wrT k17 hgc (by decide)
  replace hgs := hgs.wr k17 (by omega)
  replace hgo := hgo.wr k17 (by omega)
  replace hgg := hgg.wr k17 (by omega)
  replace hgc : Blk w17 gc 34 (flat [zTri, zTri, t16, zTri]) := hgc17
  clear k16 k17 hgc17 hall
  have hS17 := hS.to k
  repeat (first | refine r_nil ?_ | refine q_then ?_)
  refine wp_drawn 6 (by kernel_rfl) (by kernel_rfl) ?_
  apply ob_step
  · intro x w1 k1 hd
    refine r_move (by conv => (lhs; whnf)) ?_
    refine r_nil ?_
    exact ob_eq
  apply ob_step
  · intro x w1 k1 hd
    refine r_nilCheck rfl ?_
    refine r_nil ?_
    exact ob_eq
  apply ob_step
  · intro x w1 k1 hd
    refine r_field rfl ?_
    refine r_nil ?_
    exact ob_eq
  apply ob_step
  · intro x w1 k1 hd
    refine r_load_blk rfl (hgs.to k1) rfl ?_
    refine r_nil ?_
    exact ob_eq
  refine ob_step (e := ratE S ((1 : Int) : Rat)) ?_ ?_
  · intro x w1 k1 hd
    refine r_call (of_c (z := 1) (hS17.to k1) (by decide) (by decide)) rfl ?_
    rintro v2 w2 ⟨k2, h2⟩
    exact r_nil (ob_of k2 h2)
  apply ob_step
  · intro x w1 k1 hd
    refine r_move (by conv => (lhs; whnf)) ?_
    refine r_nil ?_
    exact ob_eq
  refine ob_nil (ob_end ?_)
  intro x w18 k18 hall
  have h18 : RatV S w18 (x 4) ((1 : Int) : Rat) := hall.2.1
  replace hgs := hgs.to k18
  replace hgc := hgc.to k18
  replace hgo := hgo.to k18
  replace hgg := hgg.to k18
  replace hn0 := hn0.to k18
  replace hn1 := hn1.to k18
  replace h3 := h3.to k18
  replace hn3 := hn3.to k18
  replace h16 := h16.to k18
  replace k := k.trans k18
  refine r_call (take_c (nd := 4) (nf := 4) (td := [zTri, zTri, t16, zTri]) (tf := [n0, n1, t3, n3]) (ld := [0, 0, 0 + ((1 : Int) : Rat), 0]) (lf := [-1, -1, ((1 : Int) : Rat), - (-1)]) (hS.to k) h18 (rl_one (by decide)) hgc ⟨zTri_rat, zTri_rat, h16, zTri_rat, trivial⟩ small_d hgo (show Rats S w18 [n0, n1, t3, n3] [-1, -1, ((1 : Int) : Rat), - (-1)] from ⟨hn0, hn1, h3, hn3, trivial⟩) (show 4 ≤ 4 by decide) small_f (by omega) rfl (show 4 ≤ 4 by decide) (show 4 ≤ 1000000000 by decide)) rfl ?_
  rintro v19 w19 ⟨k19, tc, hgc19, hr19⟩
  replace k := k.past k19 hgcle
  replace hgs := hgs.wr k19 (by omega)
  replace hgg := hgg.wr k19 (by omega)
  repeat (first | refine unr_step ?_ | refine wp_seq_region ?_ | refine wp_region ?_ | refine r_move (by conv => (lhs; whnf)) ?_ | refine r_assign (by conv => (lhs; whnf)) ?_ | refine r_nil ?_ | refine q_then ?_ | refine wp_ret ?_ | refine wp_exit ?_ | refine r_lss rfl rfl ?_ | refine r_addI rfl rfl (by omega) (by omega) ?_ | refine wp_if_no rfl (by omega) ?_)
  refine end_tmp rfl (by conv => (lhs; whnf)) ⟨k, gs, gc, gg, capg, rows, basic, tc, rfl, hgs, hgc19, ?_, cs, hgg⟩
  rw [take_eq] at hr19
  exact hr19
end Go.Proofs.YtpmnjjmngogkkaaGreatDoor
end

section
set_option linter.unusedVariables false
set_option linter.unusedSimpArgs false
namespace Go.Proofs.YtpmnjjmngogkkaaGreatDoor
open Go Go.RowKit
theorem short_one : Short 1 := by unfold Short; exact ⟨by decide +kernel, by decide +kernel⟩
theorem short_neg : Short (-1) := by unfold Short; exact ⟨by decide +kernel, by decide +kernel⟩
/-- s[:h] of a slice. -/
theorem r_slice_h {P : Program} {n : Nat} {Q : Post} {ρ : Fr} {w : World} {all rest : List Oper} {d : Tmp} {ty : TypeId} {pos : String} {aft : Array Edge} {t T : TypeId} [st : SlT P t T] {s b : Nat} {z : Value} {agg : Bool} [ti : TyI P T s b z agg]
    {x hi : Operand} {g m cap k : Nat} {i : Int} (hx : ev ρ x = .slice (some ⟨g, 0, none⟩) m cap) (hh : ev ρ hi = .int .i64 i) (hik : i = (k : Int)) (hk : k ≤ cap) (hc : 0 < cap)
    (h : WpR P n all Q rest (upd ρ d (.slice (some ⟨g, 0, none⟩) k cap)) w) : WpR P n all Q (⟨some d, .slice t x none (some hi) none, ty, pos, aft, none⟩ :: rest) ρ w := by
  refine r_val rfl rfl ?_ h
  subst hik
  simp [execOp, hx, hh, Instr.sliceAt, Instr.slice, run_underlying st.und, Instr.sliceBounds, Instr.sliceBound, asIntOf, hk, ti.runSize w, Addr.add, show ¬ cap = 0 by omega]
theorem fill_three {pl : Nat → Option (Nat × Nat)} {zs : List Value} {i off : Nat} {u : Tri} {r : List (Nat × Value)} {o : Option (Array Value)} (hp : pl i = some (off, 3)) (ho : off + 2 < zs.length)
    (h : Instr.fill pl (((zs.set off u.1).set (off + 1) u.2.1).set (off + 2) u.2.2).toArray r = o) : Instr.fill pl zs.toArray ((i, u.val) :: r) = o := by
  have hc : u.val.cells = #[u.1, u.2.1, u.2.2] := rfl
  unfold Instr.fill
  simp only [hp, hc]
  have e : (#[u.1, u.2.1, u.2.2].size ≠ 3 || decide (off + #[u.1, u.2.1, u.2.2].size > zs.toArray.size)) = false := by simp; omega
  rw [if_neg (by rw [e]; simp)]
  subst h
  simp [Array.zipIdx]
theorem len3 {l : List Value} {a b c : Value} (h : l.length = 3) : ((l.set 0 a).set 1 b).set 2 c = [a, b, c] := by
  match l, h with
  | [_, _, _], _ => rfl
theorem len6 {l : List Value} {a b c d e f : Value} (h : l.length = 6) : (((((l.set 0 a).set 1 b).set 2 c).set 3 d).set 4 e).set 5 f = [a, b, c, d, e, f] := by
  match l, h with
  | [_, _, _, _, _, _], _ => rfl
section
variable {P : Program} {n : Nat} {Q : Post} {ρ : Fr} {w : World} {all rest : List Oper} {d : Tmp} {ty : TypeId} {pos : String} {aft : Array Edge} {t T : TypeId}
theorem r_lit_tri1 [st : SlT P t T] {b : Nat} {z : Value} {agg : Bool} [ti : TyI P T 3 b z agg] {x : Operand} {u : Tri} (hx : ev ρ x = u.val) (h1 : u.1.oneCell' = true) (h2 : u.2.1.oneCell' = true) (h3 : u.2.2.oneCell' = true)
    (h : ∀ w' g, Ext w w' → Blk w' g T (flat [u]) → w.heap.size ≤ g → WpR P n all Q rest (upd ρ d (.slice (some ⟨g, 0, none⟩) 1 1)) w') :
    WpR P n all Q (⟨some d, .buildSlice t 1 #[(0, x)], ty, pos, aft, none⟩ :: rest) ρ w := by
  refine r_valw (w' := w.alloc (.cells (flat [u]).toArray T)) rfl rfl ?_ (h _ w.heap.size (ext_alloc _ _) (Blk.new _ _ _) (Nat.le_refl _))
  have hf : Instr.fill (fun i => some (i * 3, 3)) ((Array.range (1 * 3)).map (z.cells[· % z.cells.size]!)) [(0, u.val)] = some (flat [u]).toArray := by
    have e : (Array.range (1 * 3)).map (z.cells[· % z.cells.size]!) = ((Array.range (1 * 3)).map (z.cells[· % z.cells.size]!)).toList.toArray := (Array.toArray_toList ..).symm
    rw [e]
    refine fill_three rfl (by simp) ?_
    rw [len3 (by simp)]
    rfl
  simp [execOp, hx, Instr.buildSlice, run_underlying st.und, ti.runSize w, ti.runZero w, newRow] at hf ⊢
  simp [hf]
theorem r_lit_tri2 [st : SlT P t T] {b : Nat} {z : Value} {agg : Bool} [ti : TyI P T 3 b z agg] {x y : Operand} {u v : Tri} (hx : ev ρ x = u.val) (hy : ev ρ y = v.val)
    (h : ∀ w' g, Ext w w' → Blk w' g T (flat [u, v]) → w.heap.size ≤ g → WpR P n all Q rest (upd ρ d (.slice (some ⟨g, 0, none⟩) 2 2)) w') :
    WpR P n all Q (⟨some d, .buildSlice t 2 #[(0, x), (1, y)], ty, pos, aft, none⟩ :: rest) ρ w := by
  refine r_valw (w' := w.alloc (.cells (flat [u, v]).toArray T)) rfl rfl ?_ (h _ w.heap.size (ext_alloc _ _) (Blk.new _ _ _) (Nat.le_refl _))
  have hf : Instr.fill (fun i => some (i * 3, 3)) ((Array.range (2 * 3)).map (z.cells[· % z.cells.size]!)) [(0, u.val), (1, v.val)] = some (flat [u, v]).toArray := by
    have e : (Array.range (2 * 3)).map (z.cells[· % z.cells.size]!) = ((Array.range (2 * 3)).map (z.cells[· % z.cells.size]!)).toList.toArray := (Array.toArray_toList ..).symm
    rw [e]
    refine fill_three rfl (by simp) ?_
    refine fill_three rfl (by simp) ?_
    rw [len6 (by simp)]
    rfl
  simp [execOp, hx, hy, Instr.buildSlice, run_underlying st.und, ti.runSize w, ti.runZero w, newRow] at hf ⊢
  simp [hf]
end
theorem run_c {S : Nat → Prop} {w : World} {gs gc : Nat} {rows basic sg : Value} {tc : List Tri} (hgs : Blk w gs 169 [rows, .slice (some ⟨gc, 0, none⟩) 4 4, basic, .int .i64 2, sg])
    (hgc : Blk w gc 34 (flat tc)) (hr : Rats S w tc [1, 1, 0, -1]) :
    Gives Tryz.prog 135 [.pointer (some ⟨gs, 0, none⟩)] w fun v' w' => Ext w w' := by
  have hlen : tc.length = 4 := hr.length
  have hr3 : Rats S w (tc.take 3) [1, 1, 0] := by
    match tc, hr with
    | [a, b, c, d], ⟨h1, h2, h3, h4, _⟩ => exact ⟨h1, h2, h3, trivial⟩
  refine gives_of Tryz.func135 rfl rfl rfl ?_
  repeat (first | refine r_load_blk rfl hgs rfl ?_ | refine wp_seq_region ?_ | refine wp_region ?_ | refine r_move (by conv => (lhs; whnf)) ?_ | refine r_assign (by conv => (lhs; whnf)) ?_ | refine r_nil ?_ | refine q_then ?_ | refine r_len_sl rfl ?_ | refine r_subI rfl rfl (by omega) (by omega) ?_ | refine r_field rfl ?_ | refine r_nilCheck rfl ?_)
  try refine wp_seq_block ?_
  refine unr_for 2 ?_
  repeat (first | refine unr_step ?_ | refine r_load_blk rfl hgs rfl ?_ | refine wp_seq_region ?_ | refine wp_region ?_ | refine r_move (by conv => (lhs; whnf)) ?_ | refine wp_block_seq ?_ | refine r_field rfl ?_ | refine r_nilCheck rfl ?_)
  refine r_slice_h (k := 3) rfl rfl rfl (by decide) (by decide) ?_
  refine r_call (index_c (first := []) (caps := []) (l := [1, 1, 0]) (fun q => q.num.sign < 0) hgc hr3 (by omega) (by decide) (fun w' v q k h _ => neg_test_c h)) rfl ?_
  rintro v2 w2 ⟨⟨i, rfl, hi⟩, k2⟩
  have hi1 : i = -1 := by
    rcases hi with ⟨h, _⟩ | ⟨k, q, _, hq, hp, _⟩
    · exact h
    · have := List.mem_of_getElem? hq
      simp only [List.mem_cons, List.not_mem_nil, or_false] at this
      rcases this with rfl | rfl | rfl <;> exact absurd hp (by decide)
  subst hi1
  repeat (first | refine wp_seq_region ?_ | refine wp_seq_seq ?_ | refine wp_region ?_ | refine r_move (by conv => (lhs; whnf)) ?_ | refine r_assign (by conv => (lhs; whnf)) ?_ | refine r_nil ?_ | refine q_then ?_ | refine wp_ret ?_ | refine q_then_ret ?_ | refine q_block_ret ?_ | refine r_lss rfl rfl ?_ | refine wp_cond_yes rfl (by omega) ?_)
  exact ⟨[], rfl, k2⟩
theorem refuse_c {S : Nat → Prop} {w : World} {gl gr gb capb : Nat} {t1 t2 tb : Tri} (hS : Up S w) (ht : Tab w) (hl : Blk w gl 95 [.slice (some ⟨gr, 0, none⟩) 2 2])
    (hb : Blk w gr 34 (flat [t1, t2])) (h1 : RatV S w t1.val 1) (h2 : RatV S w t2.val 1) (hbb : Blk w gb 34 (flat [tb])) (hB : RatV S w tb.val (-1)) :
    Gives Tryz.prog 77 [.slice (some ⟨gl, 0, none⟩) 1 1, .slice (some ⟨gb, 0, none⟩) 1 capb] w fun v' w' => Ext w w' ∧ ∃ gv capv tv cs, v' = .tuple #[.slice (some ⟨gv, 0, none⟩) 1 capv, .bool true] ∧ Blk w' gv 34 (tv.1 :: tv.2.1 :: tv.2.2 :: cs) ∧ RatV S w' (Tri.val tv) 1 := by
  refine gives_of Tryz.func77 rfl rfl rfl ?_
  repeat (first | refine wp_seq_region ?_ | refine wp_seq_seq ?_ | refine wp_region ?_ | refine r_move (by conv => (lhs; whnf)) ?_ | refine r_assign (by conv => (lhs; whnf)) ?_ | refine r_nil ?_)
  refine r_call (check_c (mb := 0) (ts := [t1, t2]) (l := [1, 1]) (tb := [tb]) (lb := [-1]) hS ht hl hb ⟨h1, h2, trivial⟩ (show 2 ≤ 2 by decide) (by decide) ?_ hbb ⟨hB, trivial⟩ (show 1 ≤ 1 by decide) ?_) rfl ?_
  · intro q hq
    simp only [List.mem_cons, List.not_mem_nil, or_false] at hq
    rcases hq with rfl | rfl <;> exact short_one
  · intro q hq
    simp only [List.mem_cons, List.not_mem_nil, or_false] at hq
    subst hq
    exact short_neg
  rintro v1 w1 ⟨rfl, k1⟩
  repeat (first | refine wp_seq_region ?_ | refine wp_region ?_ | refine r_move (by conv => (lhs; whnf)) ?_ | refine r_nil ?_ | refine q_then ?_ | refine wp_skip ?_ | refine r_neq rfl rfl ?_ | refine wp_cond_no rfl (by omega) ?_)
  refine r_call (simplex_c (hS.to k1) (ht.to k1) (hl.to k1) (hb.to k1) (h1.to k1) (h2.to k1) (hbb.to k1) (hB.to k1)) rfl ?_
  rintro v2 w2 ⟨k2, gs, gc, gg, capg, rows, basic, tc, rfl, hgs, hgc, hrc, cs, hgg⟩
  repeat (first | refine wp_seq_region ?_ | refine wp_region ?_ | refine r_move (by conv => (lhs; whnf)) ?_ | refine r_assign (by conv => (lhs; whnf)) ?_ | refine r_nil ?_)
  refine r_call (run_c hgs hgc hrc) rfl ?_
  rintro v3 w3 k3
  replace hgs := hgs.to k3
  replace hgc := hgc.to k3
  replace hgg := hgg.to k3
  replace hrc := hrc.to k3
  have k := (k1.trans k2).trans k3
  have hS3 := hS.to k
  clear k1 k2 k3
  match tc, hrc with
  | [a, b, c, d], ⟨ha, hb', hc, hdd, _⟩ =>
  repeat (first | refine wp_seq_region ?_ | refine wp_seq_seq ?_ | refine r_nil ?_)
  refine wp_drawn 13 (by kernel_rfl) (by kernel_rfl) ?_
  apply ob_step
  · intro x w1 k1 hd
    refine r_move (by conv => (lhs; whnf)) ?_
    refine r_nil ?_
    exact ob_eq
  apply ob_step
  · intro x w1 k1 hd
    refine r_nilCheck rfl ?_
    refine r_nil ?_
    exact ob_eq
  apply ob_step
  · intro x w1 k1 hd
    refine r_field rfl ?_
    refine r_nil ?_
    exact ob_eq
  apply ob_step
  · intro x w1 k1 hd
    refine r_load_blk rfl (hgs.to k1) rfl ?_
    refine r_nil ?_
    exact ob_eq
  apply ob_step
  · intro x w1 k1 hd
    refine r_move (by conv => (lhs; whnf)) ?_
    refine r_nil ?_
    exact ob_eq
  apply ob_step
  · intro x w1 k1 hd
    refine r_nilCheck rfl ?_
    refine r_nil ?_
    exact ob_eq
  apply ob_step
  · intro x w1 k1 hd
    refine r_field rfl ?_
    refine r_nil ?_
    exact ob_eq
  apply ob_step
  · intro x w1 k1 hd
    refine r_load_blk rfl (hgs.to k1) rfl ?_
    refine r_nil ?_
    exact ob_eq
  apply ob_step
  · intro x w1 k1 hd
    refine r_len_sl rfl ?_
    refine r_nil ?_
    exact ob_eq
  apply ob_step
  · intro x w1 k1 hd
    refine r_subI rfl rfl (by omega) (by omega) ?_
    refine r_nil ?_
    exact ob_eq
  apply ob_step
  · intro x w1 k1 hd
    refine r_index_sl rfl rfl (by omega) (by omega) ?_
    refine r_nil ?_
    exact ob_eq
  apply ob_step
  · intro x w1 k1 hd
    refine r_load_tri 3 rfl (by decide) (hgc.to k1) rfl ?_
    refine r_nil ?_
    exact ob_eq
  refine ob_step (e := Ent.eq (.int .i64 (-1 : Rat).num.sign)) ?_ ?_
  · intro x w1 k1 hd
    refine r_call (rsign_c (v := d.val) (hdd.to k1)) rfl ?_
    rintro v2 w2 ⟨rfl, k2⟩
    exact r_nil (ob_eq_to k2)
  refine ob_nil (ob_end ?_)
  intro x w4 k4 hall
  replace hgs := hgs.to k4
  replace hgc := hgc.to k4
  replace hgg := hgg.to k4
  replace hc := hc.to k4
  replace k := k.trans k4
  have hS4 := hS3.to k4
  clear k4 hall
  repeat (first | refine r_nil ?_ | refine q_then ?_ | refine r_eql rfl rfl ?_)
  first | refine wp_cond_no rfl (by decide) ?_ | refine wp_if_no rfl (by decide) ?_ | skip
  repeat (first | refine r_load_blk rfl hgs rfl ?_ | refine wp_seq_region ?_ | refine wp_seq_seq ?_ | refine wp_region ?_ | refine r_move (by conv => (lhs; whnf)) ?_ | refine r_assign (by conv => (lhs; whnf)) ?_ | refine r_nil ?_ | refine q_then ?_ | refine wp_skip ?_ | refine r_len_sl rfl ?_ | refine r_field rfl ?_ | refine r_nilCheck rfl ?_)
  try refine wp_seq_block ?_
  refine unr_for 3 ?_
  repeat (first | refine unr_step ?_ | refine r_load_blk rfl hgg rfl ?_ | refine wp_seq_region ?_ | refine wp_seq_bseq ?_ | refine wp_region ?_ | refine r_move (by conv => (lhs; whnf)) ?_ | refine r_assign (by conv => (lhs; whnf)) ?_ | refine r_nil ?_ | refine q_then ?_ | refine wp_block_seq ?_ | refine wp_skip ?_ | refine r_lss rfl rfl ?_ | refine r_index_sl rfl rfl (by omega) (by omega) ?_ | refine wp_if_yes rfl (by omega) ?_)
  refine wp_drawn 15 (by kernel_rfl) (by kernel_rfl) ?_
  apply ob_step
  · intro x w1 k1 hd
    refine r_move (by conv => (lhs; whnf)) ?_
    refine r_nil ?_
    exact ob_eq
  apply ob_step
  · intro x w1 k1 hd
    refine r_nilCheck rfl ?_
    refine r_nil ?_
    exact ob_eq
  apply ob_step
  · intro x w1 k1 hd
    refine r_field rfl ?_
    refine r_nil ?_
    exact ob_eq
  apply ob_step
  · intro x w1 k1 hd
    refine r_load_blk rfl (hgs.to k1) rfl ?_
    refine r_nil ?_
    exact ob_eq
  apply ob_step
  · intro x w1 k1 hd
    refine r_move (by conv => (lhs; whnf)) ?_
    refine r_nil ?_
    exact ob_eq
  apply ob_step
  · intro x w1 k1 hd
    refine r_nilCheck rfl ?_
    refine r_nil ?_
    exact ob_eq
  apply ob_step
  · intro x w1 k1 hd
    refine r_field rfl ?_
    refine r_nil ?_
    exact ob_eq
  apply ob_step
  · intro x w1 k1 hd
    refine r_load_blk rfl (hgs.to k1) rfl ?_
    refine r_nil ?_
    exact ob_eq
  apply ob_step
  · intro x w1 k1 hd
    refine r_move (by conv => (lhs; whnf)) ?_
    refine r_nil ?_
    exact ob_eq
  apply ob_step
  · intro x w1 k1 hd
    refine r_addI rfl rfl (by omega) (by omega) ?_
    refine r_nil ?_
    exact ob_eq
  apply ob_step
  · intro x w1 k1 hd
    refine r_index_sl rfl rfl (by omega) (by omega) ?_
    refine r_nil ?_
    exact ob_eq
  apply ob_step
  · intro x w1 k1 hd
    refine r_load_tri 2 rfl (by decide) (hgc.to k1) rfl ?_
    refine r_nil ?_
    exact ob_eq
  refine ob_step (e := ratE S ((1 : Int) : Rat)) ?_ ?_
  · intro x w1 k1 hd
    refine r_call (of_c (z := 1) (hS4.to k1) (by decide) (by decide)) rfl ?_
    rintro v2 w2 ⟨k2, h2⟩
    exact r_nil (ob_of k2 h2)
  refine ob_step (e := ratE S (0 - ((1 : Int) : Rat))) ?_ ?_
  · intro x w1 k1 hd
    refine r_call (rminus_c (va := c.val) (hS4.to k1) (hc.to k1) hd.1 rl_zero (rl_one (by decide))) rfl ?_
    rintro v2 w2 ⟨k2, h2⟩
    exact r_nil (ob_of k2 h2)
  refine ob_step (e := Ent.of (fun v w => ∃ g, v = .pointer (some ⟨g, 0, none⟩) ∧ Blk w g 34 [.bool false, .slice none 0 0, .slice none 0 0] ∧ w4.heap.size ≤ g) (fun v w w' ⟨g, h, hb, hg⟩ k => ⟨g, h, hb.to k, hg⟩)) ?_ ?_
  · intro x w1 k1 hd
    refine r_alloc (cs := [.bool false, .slice none 0 0, .slice none 0 0]) rfl ?_
    intro w2 g k2 hg hgs
    exact r_nil (ob_of k2 ⟨g, rfl, hg, by have := k1.size; omega⟩)
  refine ob_nil (ob_end ?_)
  intro x5 w5 k5 hall
  obtain ⟨gx, hvx, hgx, hgxs⟩ : ∃ g, x5 14 = .pointer (some ⟨g, 0, none⟩) ∧ Blk w5 g 34 [.bool false, .slice none 0 0, .slice none 0 0] ∧ w4.heap.size ≤ g := hall.1
  obtain ⟨t5, hv5, h5, o1, o2, o3⟩ := RatV.tri (show RatV S w5 (x5 13) (0 - ((1 : Int) : Rat)) from hall.2.1)
  refine r_learn 10 hvx ?_
  refine r_store3 rfl hv5 hgx rfl o1 o2 o3 ?_
  intro w6 k6 hgx6
  have hk := k.size
  replace k := (k.trans k5).past k6 (by omega)
  replace h5 := h5.wrT k6 hgx (by decide)
  replace hgx : Blk w6 gx 34 (flat [t5]) := hgx6
  have hS6 := hS.to k
  clear k5 k6 hgx6 hall hgs hgc hgg
  repeat (first | refine wp_seq_region ?_ | refine wp_seq_seq ?_ | refine wp_region ?_ | refine r_move (by conv => (lhs; whnf)) ?_ | refine r_nil ?_ | refine q_then ?_ | refine wp_cond_true rfl ?_)
  repeat (first | refine r_load_tri 0 rfl (by decide) hgx rfl ?_)
  refine r_call (rneg_c (v := t5.val) h5) rfl ?_
  rintro v7 w7 ⟨k7, hn⟩
  obtain ⟨n7, rfl, hn, p1, p2, p3⟩ := RatV.tri hn
  replace hgx := hgx.to k7
  skip
  refine r_store3 rfl rfl hgx rfl p1 p2 p3 ?_
  intro w8 k8 hgx8
  replace k := (k.trans k7).past k8 (by omega)
  replace hn := hn.wrT k8 hgx (by decide)
  replace hgx : Blk w8 gx 34 (flat [n7]) := hgx8
  clear k7 k8 hgx8
  repeat (first | refine r_load_tri 0 rfl (by decide) hgx rfl ?_ | refine wp_region ?_ | refine r_move (by conv => (lhs; whnf)) ?_ | refine r_nil ?_)
  refine r_lit_tri1 (u := n7) rfl p1 p2 p3 ?_
  intro w9 g9 k9 hg9 hgs9
  have hb9 := hg9.lt
  skip
  refine r_append1 (base := g9) (m := 0) (xs := []) (cs := [n7.1, n7.2.1, n7.2.2]) rfl own_nil rfl hg9 (show 0 < 3 by decide) rfl (ones3 p1 p2 p3) (by decide) (by decide) (by omega) ?_
  intro vw w10 hvw k10
  have k10' : Ext w9 w10 := k10.mono fun i _ e => by cases e
  obtain ⟨gv, capv, cv, rfl, hgv⟩ : ∃ gv capv cs, vw = .slice (some ⟨gv, 0, none⟩) 1 capv ∧ Blk w10 gv 34 (n7.1 :: n7.2.1 :: n7.2.2 :: cs) := by
    rcases hvw.2 with ⟨hv, h0⟩ | ⟨g, cap, cur, hv, hb, hg, hn, hm, hc, htk⟩
    · omega
    · have hcur : cur.toList = n7.1 :: n7.2.1 :: n7.2.2 :: cur.toList.drop 3 := by
        have e1 : cur.toList.take 3 = [n7.1, n7.2.1, n7.2.2] := htk
        rw [← List.take_append_drop 3 cur.toList, e1]
        simp
      refine ⟨g, cap, cur.toList.drop 3, hv, ?_⟩
      unfold Blk
      rw [← hcur]
      simpa using hg
  clear hvw k10
  replace hn := (hn.to k9).to k10'
  repeat (first | refine unr_step ?_ | refine wp_seq_region ?_ | refine wp_region ?_ | refine r_move (by conv => (lhs; whnf)) ?_ | refine r_assign (by conv => (lhs; whnf)) ?_ | refine r_nil ?_ | refine q_then ?_ | refine wp_ret ?_ | refine wp_exit ?_ | refine r_lss rfl rfl ?_ | refine r_addI rfl rfl (by omega) (by omega) ?_ | refine wp_if_no rfl (by omega) ?_)
  refine end_tmp2 rfl (by conv => (lhs; whnf)) (by conv => (lhs; whnf)) ⟨(k.trans k9).trans k10', gv, capv, n7, cv, rfl, hgv, ?_⟩
  have e : - (0 - ((1 : Int) : Rat)) = 1 := by decide +kernel
  rwa [e] at hn
end Go.Proofs.YtpmnjjmngogkkaaGreatDoor
end

section
set_option linter.unusedVariables false
set_option linter.unusedSimpArgs false
namespace Go.Proofs.YtpmnjjmngogkkaaGreatDoor
open Go Go.RowKit
theorem big_pos : 1000 < Big := Nat.lt_of_lt_of_le (by decide) (Nat.le_trans (pow_mono_b (i := 2) (j := 3344) (by decide)) big_low)
def third : Rat := mkRat (1 * (3 : Int).sign) (3 : Int).natAbs
def sixth : Rat := mkRat (1 * (6 : Int).sign) (6 : Int).natAbs
theorem half_num : (third + sixth).num = 1 := by decide +kernel
theorem half_den : (third + sixth).den = 2 := by decide +kernel
theorem half_fits : Fits (third + sixth) := by
  have := big_pos
  unfold Fits
  rw [half_num, half_den]
  exact ⟨by show 1 < _; omega, by omega⟩
theorem half_str : rstr (third + sixth) = [49, 47, 50] := by
  unfold rstr Lib.itoa
  rw [half_num, half_den, if_neg (by decide), if_neg (by decide), show (1 : Int).toNat = 1 from rfl, Lib.decDigits_one (by decide), Lib.decDigits_one (by decide)]
  rfl
theorem q_str : Lib.itoa (-7 / 2) = [45, 52] := by
  rw [show (-7 / 2 : Int) = -4 by decide]
  unfold Lib.itoa
  rw [if_pos (by decide), show (-4 : Int).natAbs = 4 from rfl, Lib.decDigits_one (by decide)]
  rfl
theorem r_str : Lib.itoa (-7 % 2) = [49] := by
  rw [show (-7 % 2 : Int) = 1 by decide]
  unfold Lib.itoa
  rw [if_neg (by decide), show (1 : Int).toNat = 1 from rfl, Lib.decDigits_one (by decide)]
  rfl
theorem rl_of {q : Rat} {n m : Nat} (hn : 0 < n) (h1 : q.num.natAbs < 1000000000) (h2 : q.den < 1000000000) : rl q n := by
  have h : ∀ a, a < 1000000000 → dl a ≤ n := fun a ha => Nat.le_trans (dl_le (k := 1) (by omega)) hn
  exact ⟨h _ h1, h _ h2⟩
set_option maxRecDepth 100000 in
set_option maxHeartbeats 8000000 in
theorem awake_c {w : World} (ht : Tab w) : Gives Tryz.prog 20 [] w fun v' w' => v' = .bool true ∧ Ext w w' := by
  have hS : Up All w := Up.all
  refine gives_of Tryz.func20 rfl rfl rfl ?_
  repeat (first | refine wp_seq_region ?_ | refine wp_region ?_ | refine r_assign (by conv => (lhs; whnf)) ?_ | refine r_nil ?_)
  refine r_call (make_c (a := 1) (b := 3) hS (by decide) (by decide) (by decide) (by decide) (by decide)) rfl ?_
  rintro v1 w1 ⟨v, rfl, k, h1⟩
  replace h1 : RatV All w1 v third := h1
  obtain ⟨t1, rfl, h1, o11, o12, o13⟩ := RatV.tri h1
  repeat (first | refine r_move (by conv => (lhs; whnf)) ?_ | refine r_extract rfl rfl ?_)
  refine r_alloc (cs := [.bool false, .slice none 0 0, .slice none 0 0]) rfl ?_
  intro w2 g1 k2 hg1 hgs1
  have hsz1 := k.size
  replace h1 := h1.to k2
  refine r_store3 rfl rfl hg1 rfl o11 o12 o13 ?_
  intro w3 k3 hg13
  replace h1 := h1.wrT k3 hg1 (by decide)
  replace k := (k.trans k2).past k3 (by omega)
  replace hg1 : Blk w3 g1 34 (flat [t1]) := hg13
  clear k2 k3 hg13
  repeat (first | refine wp_seq_region ?_ | refine wp_region ?_ | refine r_assign (by conv => (lhs; whnf)) ?_ | refine r_nil ?_)
  refine r_call (make_c (a := 1) (b := 6) (hS.to k) (by decide) (by decide) (by decide) (by decide) (by decide)) rfl ?_
  rintro v4 w4 ⟨v, rfl, k4, h2⟩
  replace h2 : RatV All w4 v sixth := h2
  obtain ⟨t2, rfl, h2, o21, o22, o23⟩ := RatV.tri h2
  have hl1 := hg1.lt
  have hsz4 := k4.size
  replace hg1 := hg1.to k4
  replace h1 := h1.to k4
  replace k := k.trans k4
  repeat (first | refine r_move (by conv => (lhs; whnf)) ?_ | refine r_extract rfl rfl ?_)
  refine r_alloc (cs := [.bool false, .slice none 0 0, .slice none 0 0]) rfl ?_
  intro w5 g2 k5 hg2 hgs2
  replace hg1 := hg1.to k5
  replace h1 := h1.to k5
  replace h2 := h2.to k5
  refine r_store3 rfl rfl hg2 rfl o21 o22 o23 ?_
  intro w6 k6 hg26
  have hsz := k.size
  replace h1 := h1.wrT k6 hg2 (by decide)
  replace h2 := h2.wrT k6 hg2 (by decide)
  replace hg1 := hg1.wr k6 (by omega)
  replace k := (k.trans k5).past k6 (by omega)
  replace hg2 : Blk w6 g2 34 (flat [t2]) := hg26
  clear k4 k5 k6 hg26
  repeat (first | refine r_load_tri 0 rfl (by decide) hg1 rfl ?_ | refine r_load_tri 0 rfl (by decide) hg2 rfl ?_ | refine wp_seq_region ?_ | refine wp_region ?_ | refine r_assign (by conv => (lhs; whnf)) ?_ | refine r_nil ?_)
  refine r_call (radd_c (hS.to k) h1 h2 (rl_of (m := 0) (by decide) (by decide +kernel) (by decide +kernel)) (rl_of (m := 0) (by decide) (by decide +kernel) (by decide +kernel))) rfl ?_
  rintro v7 w7 ⟨k7, r, e, rfl, hor⟩
  have h3 : e = 0 ∧ RatV All w7 r (third + sixth) := by
    rcases hor with ⟨_, h, h'⟩ | ⟨h, _⟩
    · exact ⟨h, h'⟩
    · exact absurd half_fits h
  clear hor
  obtain ⟨rfl, h3⟩ := h3
  obtain ⟨t3, rfl, h3, o31, o32, o33⟩ := RatV.tri h3
  replace k := k.trans k7
  clear h1 h2 hg1 hg2 o11 o12 o13 o21 o22 o23 k7 hgs1 hgs2 hl1 hsz4
  repeat (first | refine r_move (by conv => (lhs; whnf)) ?_ | refine r_extract rfl rfl ?_)
  refine r_alloc (cs := [.bool false, .slice none 0 0, .slice none 0 0]) rfl ?_
  intro w8 g3 k8 hg3 hgs3
  replace h3 := h3.to k8
  refine r_store3 rfl rfl hg3 rfl o31 o32 o33 ?_
  intro w9 k9 hg39
  have hsz7 := k.size
  replace h3 := h3.wrT k9 hg3 (by decide)
  replace k := (k.trans k8).past k9 (by omega)
  replace hg3 : Blk w9 g3 34 (flat [t3]) := hg39
  clear k8 k9 hg39
  repeat (first | refine wp_seq_region ?_ | refine wp_region ?_ | refine r_assign (by conv => (lhs; whnf)) ?_ | refine r_nil ?_)
  refine r_call (whole_c (z := -7) (hS.to k) (by decide) (by decide)) rfl ?_
  rintro v10 w10 ⟨k10, hz1⟩
  skip
  refine r_call (whole_c (z := 2) ((hS.to k).to k10) (by decide) (by decide)) rfl ?_
  rintro v11 w11 ⟨k11, hz2⟩
  skip
  refine r_call (idiv_c (((hS.to k).to k10).to k11) (hz1.to k11) hz2 (Nat.le_trans (dl_le (k := 1) (by decide)) (by decide)) (Nat.le_trans (dl_le (k := 1) (by decide)) (by decide)) (by decide)) rfl ?_
  rintro v12 w12 ⟨vq, vr, rfl, k12, ⟨mq, rfl, hq⟩, ⟨mr, rfl, hr⟩⟩
  have kk := (k10.trans k11).trans k12
  have hg3l := hg3.lt
  have hszk := kk.size
  replace hg3 := hg3.to kk
  replace h3 := h3.to kk
  replace k := k.trans kk
  clear kk k10 k11 k12 hz1 hz2
  repeat (first | refine r_move (by conv => (lhs; whnf)) ?_ | refine r_extract rfl rfl ?_)
  refine r_alloc (cs := [.bool false, .slice none 0 0]) rfl ?_
  intro w13 g7 k13 hg7 hgs7
  skip
  refine r_alloc (cs := [.bool false, .slice none 0 0]) rfl ?_
  intro w14 g8 k14 hg8 hgs8
  have hg7l := hg7.lt
  replace hg7 := hg7.to k14
  have k134 := k13.trans k14
  replace hg3 := hg3.to k134
  replace h3 := h3.to k134
  replace hq := hq.to k134
  replace hr := hr.to k134
  have hsz12 := k.size
  have hsz13 := k13.size
  replace k := k.trans k134
  refine r_store2 rfl rfl hg7 rfl hq.one ?_
  intro w15 k15 hg75
  replace h3 := h3.wrT k15 hg7 (by decide)
  replace hq := hq.wrT k15 hg7 (by decide)
  replace hr := hr.wrT k15 hg7 (by decide)
  replace hg3 := hg3.wr k15 (by omega)
  replace hg8 := hg8.wr k15 (by omega)
  replace k := k.past k15 (by omega)
  refine r_store2 rfl rfl hg8 rfl hr.one ?_
  intro w16 k16 hg86
  replace h3 := h3.wrT k16 hg8 (by decide)
  replace hq := hq.wrT k16 hg8 (by decide)
  replace hr := hr.wrT k16 hg8 (by decide)
  replace hg7 := hg75.wr k16 (by omega)
  replace hg3 := hg3.wr k16 (by omega)
  replace k := k.past k16 (by omega)
  replace hg8 := hg86
  clear k13 k14 k134 k15 k16 hg75 hg86
  repeat (first | refine wp_seq_region ?_ | refine wp_region ?_ | refine r_assign (by conv => (lhs; whnf)) ?_ | refine r_nil ?_)
  refine r_call (of_c (z := 1) (hS.to k) (by decide) (by decide)) rfl ?_
  rintro v17 w17 ⟨k17, h4⟩
  obtain ⟨t4, rfl, h4, o41, o42, o43⟩ := RatV.tri h4
  have hg7l' := hg7.lt
  have hg8l' := hg8.lt
  have hg3l' := hg3.lt
  have hsz17 := k17.size
  replace hg3 := hg3.to k17
  replace h3 := h3.to k17
  replace hq := hq.to k17
  replace hr := hr.to k17
  replace hg7 := hg7.to k17
  replace hg8 := hg8.to k17
  replace k := k.trans k17
  refine r_alloc (cs := [.bool false, .slice none 0 0, .slice none 0 0]) rfl ?_
  intro w18 g4 k18 hg4 hgs4
  replace hg3 := hg3.to k18
  replace h3 := h3.to k18
  replace hq := hq.to k18
  replace hr := hr.to k18
  replace hg7 := hg7.to k18
  replace hg8 := hg8.to k18
  replace h4 := h4.to k18
  have hszz := k.size
  refine r_store3 rfl rfl hg4 rfl o41 o42 o43 ?_
  intro w19 k19 hg49
  replace h3 := h3.wrT k19 hg4 (by decide)
  replace hq := hq.wrT k19 hg4 (by decide)
  replace hr := hr.wrT k19 hg4 (by decide)
  replace h4 := h4.wrT k19 hg4 (by decide)
  replace hg3 := hg3.wr k19 (by omega)
  replace hg7 := hg7.wr k19 (by omega)
  replace hg8 := hg8.wr k19 (by omega)
  replace k := (k.trans k18).past k19 (by omega)
  replace hg4 : Blk w19 g4 34 (flat [t4]) := hg49
  clear k17 k18 k19 hg49 hgs4 hgs7 hgs8 hgs3 hg7l hg3l hsz hsz1 hsz7 hsz12 hsz13 hsz17 hszz hszk hg7l' hg8l' hg3l'
  have hS19 := hS.to k
  repeat (first | refine wp_seq_region ?_ | refine r_nil ?_)
  refine wp_drawn 11 (by kernel_rfl) (by kernel_rfl) ?_
  apply ob_step
  · intro x w1 k1 hd
    refine r_load_tri 0 rfl (by decide) (hg4.to k1) rfl ?_
    refine r_nil ?_
    exact ob_eq
  apply ob_step
  · intro x w1 k1 hd
    refine r_load_tri 0 rfl (by decide) (hg4.to k1) rfl ?_
    refine r_nil ?_
    exact ob_eq
  refine ob_step (e := Ent.of (fun v w => ∃ g, v = .slice (some ⟨g, 0, none⟩) 2 2 ∧ Blk w g 34 (flat [t4, t4])) (fun v w w' ⟨g, h, hb⟩ k => ⟨g, h, hb.to k⟩)) ?_ ?_
  · intro x w1 k1 hd
    refine r_lit_tri2 rfl rfl ?_
    intro w2 g k2 hg _
    exact r_nil (ob_of k2 ⟨g, rfl, hg⟩)
  refine ob_step (e := Ent.of (fun v w => ∃ gl gr, v = .slice (some ⟨gl, 0, none⟩) 1 1 ∧ Blk w gl 95 [.slice (some ⟨gr, 0, none⟩) 2 2] ∧ Blk w gr 34 (flat [t4, t4])) (fun v w w' ⟨g, gr, h, hb, hr⟩ k => ⟨g, gr, h, hb.to k, hr.to k⟩)) ?_ ?_
  · intro x w1 k1 hd
    obtain ⟨g, hx, hg⟩ : ∃ g, x 2 = .slice (some ⟨g, 0, none⟩) 2 2 ∧ Blk w1 g 34 (flat [t4, t4]) := hd.1
    refine r_lit1 (v := .slice (some ⟨g, 0, none⟩) 2 2) hx rfl ?_
    intro w2 gl k2 hgl _
    exact r_nil (ob_of k2 ⟨gl, g, rfl, hgl, hg.to k2⟩)
  refine ob_step (e := ratE All ((-1 : Int) : Rat)) ?_ ?_
  · intro x w1 k1 hd
    refine r_call (of_c (z := -1) (hS19.to k1) (by decide) (by decide)) rfl ?_
    rintro v2 w2 ⟨k2, h2⟩
    exact r_nil (ob_of k2 h2)
  refine ob_step (e := Ent.of (fun v w => ∃ (g : Nat) (t : Tri), v = .slice (some ⟨g, 0, none⟩) 1 1 ∧ Blk w g 34 (flat [t]) ∧ RatV All w (Tri.val t) (-1)) (fun v w w' ⟨g, t, h, hb, hr⟩ k => ⟨g, t, h, hb.to k, hr.to k⟩)) ?_ ?_
  · intro x w1 k1 hd
    obtain ⟨t, hx, htr, p1, p2, p3⟩ := RatV.tri (show RatV All w1 (x 4) ((-1 : Int) : Rat) from hd.1)
    refine r_lit_tri1 (u := t) hx p1 p2 p3 ?_
    intro w2 g k2 hg _
    exact r_nil (ob_of k2 ⟨g, t, rfl, hg, htr.to k2⟩)
  refine ob_step (e := Ent.of (fun v w => ∃ (gv capv : Nat) (tv : Tri) (cs : List Value), v = .tuple #[.slice (some ⟨gv, 0, none⟩) 1 capv, .bool true] ∧ Blk w gv 34 (tv.1 :: tv.2.1 :: tv.2.2 :: cs) ∧ RatV All w (Tri.val tv) 1) (fun v w w' ⟨g, c, t, cs, h, hb, hr⟩ k => ⟨g, c, t, cs, h, hb.to k, hr.to k⟩)) ?_ ?_
  · intro x w1 k1 hd
    obtain ⟨gb, tb, hxb, hgb, hB⟩ : ∃ (g : Nat) (t : Tri), x 5 = .slice (some ⟨g, 0, none⟩) 1 1 ∧ Blk w1 g 34 (flat [t]) ∧ RatV All w1 (Tri.val t) (-1) := hd.1
    obtain ⟨gl, gr, hxl, hgl, hgr⟩ : ∃ gl gr, x 3 = .slice (some ⟨gl, 0, none⟩) 1 1 ∧ Blk w1 gl 95 [.slice (some ⟨gr, 0, none⟩) 2 2] ∧ Blk w1 gr 34 (flat [t4, t4]) := hd.2.2.1
    refine r_call (refuse_c (capb := 1) (hS19.to k1) ((ht.to k).to k1) hgl hgr (h4.to k1) (h4.to k1) hgb hB) (args2 hxl hxb) ?_
    rintro v2 w2 ⟨k2, h2⟩
    exact r_nil (ob_of k2 h2)
  refine ob_step (e := Ent.of (fun v w => ∃ (gv capv : Nat) (tv : Tri) (cs : List Value), v = .tuple #[.slice (some ⟨gv, 0, none⟩) 1 capv, .bool true] ∧ Blk w gv 34 (tv.1 :: tv.2.1 :: tv.2.2 :: cs) ∧ RatV All w (Tri.val tv) 1) (fun v w w' ⟨g, c, t, cs, h, hb, hr⟩ k => ⟨g, c, t, cs, h, hb.to k, hr.to k⟩)) ?_ ?_
  · intro x w1 k1 hd
    refine r_move rfl ?_
    exact r_nil (ob_of .refl hd.1)
  refine ob_step (e := Ent.of (fun v w => ∃ (gv capv : Nat) (tv : Tri) (cs : List Value), v = .slice (some ⟨gv, 0, none⟩) 1 capv ∧ Blk w gv 34 (tv.1 :: tv.2.1 :: tv.2.2 :: cs) ∧ RatV All w (Tri.val tv) 1) (fun v w w' ⟨g, c, t, cs, h, hb, hr⟩ k => ⟨g, c, t, cs, h, hb.to k, hr.to k⟩)) ?_ ?_
  · intro x w1 k1 hd
    obtain ⟨gv, capv, tv, cs, hx, hg, hv⟩ : ∃ (gv capv : Nat) (tv : Tri) (cs : List Value), x 7 = .tuple #[.slice (some ⟨gv, 0, none⟩) 1 capv, .bool true] ∧ Blk w1 gv 34 (tv.1 :: tv.2.1 :: tv.2.2 :: cs) ∧ RatV All w1 (Tri.val tv) 1 := hd.1
    refine r_extract hx rfl ?_
    exact r_nil (ob_of .refl ⟨gv, capv, tv, cs, rfl, hg, hv⟩)
  refine ob_step (e := Ent.eq (.bool true)) ?_ ?_
  · intro x w1 k1 hd
    obtain ⟨gv, capv, tv, cs, hx, hg, hv⟩ : ∃ (gv capv : Nat) (tv : Tri) (cs : List Value), x 7 = .tuple #[.slice (some ⟨gv, 0, none⟩) 1 capv, .bool true] ∧ Blk w1 gv 34 (tv.1 :: tv.2.1 :: tv.2.2 :: cs) ∧ RatV All w1 (Tri.val tv) 1 := hd.2.1
    refine r_extract hx rfl ?_
    exact r_nil ob_eq
  refine ob_step (e := Ent.of (fun v w => ∃ (gv capv : Nat) (tv : Tri) (cs : List Value), v = .slice (some ⟨gv, 0, none⟩) 1 capv ∧ Blk w gv 34 (tv.1 :: tv.2.1 :: tv.2.2 :: cs) ∧ RatV All w (Tri.val tv) 1) (fun v w w' ⟨g, c, t, cs, h, hb, hr⟩ k => ⟨g, c, t, cs, h, hb.to k, hr.to k⟩)) ?_ ?_
  · intro x w1 k1 hd
    refine r_assign rfl ?_
    exact r_nil (ob_of .refl hd.2.1)
  refine ob_nil (ob_end ?_)
  intro x w20 k20 hall
  obtain ⟨gv, capv, tv, cs, hxv, hgv, hv⟩ : ∃ (gv capv : Nat) (tv : Tri) (cs : List Value), x 10 = .slice (some ⟨gv, 0, none⟩) 1 capv ∧ Blk w20 gv 34 (tv.1 :: tv.2.1 :: tv.2.2 :: cs) ∧ RatV All w20 (Tri.val tv) 1 := hall.1
  refine r_learn 11 hxv ?_
  replace hg3 := hg3.to k20
  replace h3 := h3.to k20
  replace hq := hq.to k20
  replace hr := hr.to k20
  replace hg7 := hg7.to k20
  replace hg8 := hg8.to k20
  replace k := k.trans k20
  clear hall k20 h4 hg4
  have ht20 := ht.to k
  repeat (first | refine r_load_tri 0 rfl (by decide) hg3 rfl ?_ | refine wp_seq_region ?_ | refine wp_region ?_ | refine r_move (by conv => (lhs; whnf)) ?_ | refine r_assign (by conv => (lhs; whnf)) ?_ | refine r_nil ?_ | refine r_guard_run rfl rfl ?_ | refine r_pick_true rfl (by conv => (lhs; whnf)) ?_ | refine r_eql rfl rfl ?_ | refine r_guard_yes rfl rfl (by omega) ?_)
  refine r_call (rstr_c (v := t3.val) ht20 h3 (rl_of (m := 0) (by decide) (by rw [half_num]; decide) (by rw [half_den]; decide))) rfl ?_
  rintro v21 w21 ⟨rfl, k21⟩
  refine r_guard_run rfl rfl ?_
  refine r_eqlS rfl rfl ?_
  repeat (first | refine r_move (by conv => (lhs; whnf)) ?_ | refine r_pick_true rfl (by conv => (lhs; whnf)) ?_)
  refine r_guard_yes rfl rfl half_str ?_
  repeat (first | refine r_load_all rfl (hg7.to k21) rfl ?_ | refine r_guard_run rfl rfl ?_)
  refine r_call (istr_c (a := -7 / 2) (ht20.to k21) ⟨mq, rfl, hq.to k21⟩ (Nat.le_trans (dl_le (k := 1) (by decide)) (by decide))) rfl ?_
  rintro v22 w22 ⟨rfl, k22⟩
  refine r_guard_run rfl rfl ?_
  refine r_eqlS rfl rfl ?_
  repeat (first | refine r_move (by conv => (lhs; whnf)) ?_ | refine r_pick_true rfl (by conv => (lhs; whnf)) ?_)
  refine r_guard_yes rfl rfl q_str ?_
  repeat (first | refine r_load_all rfl ((hg8.to k21).to k22) rfl ?_ | refine r_guard_run rfl rfl ?_)
  refine r_call (istr_c (a := -7 % 2) ((ht20.to k21).to k22) ⟨mr, rfl, (hr.to k21).to k22⟩ (Nat.le_trans (dl_le (k := 1) (by decide)) (by decide))) rfl ?_
  rintro v23 w23 ⟨rfl, k23⟩
  refine r_guard_run rfl rfl ?_
  refine r_eqlS rfl rfl ?_
  repeat (first | refine r_move (by conv => (lhs; whnf)) ?_ | refine r_pick_true rfl (by conv => (lhs; whnf)) ?_)
  refine r_guard_yes rfl rfl r_str ?_
  repeat (first | refine r_move (by conv => (lhs; whnf)) ?_ | refine r_len_sl rfl ?_ | refine r_guard_run rfl rfl ?_ | refine r_pick_true rfl (by conv => (lhs; whnf)) ?_ | refine r_eql rfl rfl ?_ | refine r_index_sl rfl rfl (by omega) (by omega) ?_ | refine r_guard_yes rfl rfl (by omega) ?_)
  have k3 := (k21.trans k22).trans k23
  replace hgv := hgv.to k3
  replace hv := hv.to k3
  repeat (first | refine r_load_part rfl hgv rfl rfl ?_ | refine r_guard_run rfl rfl ?_)
  refine r_call (rsign_c (v := tv.val) hv) rfl ?_
  rintro v24 w24 ⟨rfl, k24⟩
  repeat (first | refine r_assign (by conv => (lhs; whnf)) ?_ | refine r_nil ?_ | refine q_then ?_ | refine wp_ret ?_ | refine r_guard_run rfl rfl ?_ | refine r_pick_true rfl (by conv => (lhs; whnf)) ?_ | refine r_gtr rfl rfl ?_)
  refine end_tmp rfl (by conv => (lhs; whnf)) ⟨?_, (k.trans k3).trans k24⟩
  exact congrArg Value.bool (tst_true (by decide))
end Go.Proofs.YtpmnjjmngogkkaaGreatDoor
end

section
set_option linter.unusedVariables false
set_option linter.unusedSimpArgs false
namespace Go.Proofs.YtpmnjjmngogkkaaGreatDoor
open Go Go.RowKit
/-- A part of a value. -/
inductive Ch where
  | val (x : Value)                     -- one cell, not looked into
  | ag (n : Nat) (x : Value)            -- a struct or an array of n cells, not looked into
  | int (k : IntKind) (z : Int)
  | lit (k : IntKind) (z : Int)         -- a numeral
  | bb (x : Bool)
  | tp (p : Prop)
  | ptr (b o : Nat)                     -- a pointer into a block of the call's own
  | fn (g : FuncId) (cap : List (Nat ⊕ Value))
  | sl (x : Value) (m : Nat)            -- a slice, of which the length is known
  | str (l : List UInt8)
  | win (b o m c : Nat)                 -- a slice of a block of the call's own
def capDen (β : Nat → Nat) : Nat ⊕ Value → Value
  | .inl b => .pointer (some ⟨β b, 0, none⟩)
  | .inr x => x
noncomputable def Ch.den (β : Nat → Nat) : Ch → Value
  | .val x => x
  | .ag _ x => x
  | .int k z => .int k z
  | .lit k z => .int k z
  | .bb x => .bool x
  | .tp p => .bool (tst p)
  | .ptr b o => .pointer (some ⟨β b, o, none⟩)
  | .fn g cap => .func (.func g) #[] (cap.map (capDen β)).toArray
  | .sl x _ => x
  | .str l => strV l
  | .win b o m c => .slice (some ⟨β b, o, none⟩) m c
noncomputable def Ch.cells (β : Nat → Nat) : Ch → List Value
  | .ag _ x => x.cells.toList
  | c => [c.den β]
def Ch.size : Ch → Nat
  | .ag n _ => n
  | _ => 1
def Ch.Ok (m : Nat) : Ch → Prop
  | .val x => x.oneCell' = true
  | .ag n x => ∃ cs : List Value, x = .agg cs.toArray ∧ cs.length = n ∧ ∀ u ∈ cs, u.oneCell' = true
  | .ptr b _ => b < m
  | .fn _ cap => ∀ b, Sum.inl b ∈ cap → b < m
  | .sl x l => ∃ a c, x = .slice a l c ∧ l ≤ c
  | .win b _ _ _ => b < m
  | _ => True
noncomputable def cellsL (β : Nat → Nat) (l : List Ch) : List Value := l.flatMap (Ch.cells β)
def sizeL : List Ch → Nat
  | [] => 0
  | c :: r => c.size + sizeL r
inductive SV where
  | one (c : Ch)
  | agg (l : List Ch)
  | tup (l : List (Bool × List Ch))
  | und
noncomputable def partDen (β : Nat → Nat) : Bool × List Ch → Value
  | (true, l) => .agg (cellsL β l).toArray
  | (false, c :: _) => c.den β
  | (false, []) => undef
noncomputable def SV.den (β : Nat → Nat) : SV → Value
  | .one c => c.den β
  | .agg l => .agg (cellsL β l).toArray
  | .tup l => .tuple (l.map (partDen β)).toArray
  | .und => undef
def SV.Ok (m : Nat) : SV → Prop
  | .one c => c.Ok m
  | .agg l => ∀ c ∈ l, c.Ok m
  | .tup l => ∀ p ∈ l, ∀ c ∈ p.2, c.Ok m
  | .und => True
def SV.chunks : SV → Option (List Ch)
  | .one c => some [c]
  | .agg l => some l
  | _ => none
section
variable {m m' : Nat} {β β' : Nat → Nat}
theorem Ch.Ok.le {c : Ch} (h : c.Ok m) (hm : m ≤ m') : c.Ok m' := by
  cases c with
  | ptr b o => exact Nat.lt_of_lt_of_le h hm
  | fn g cap => exact fun b hb => Nat.lt_of_lt_of_le (h b hb) hm
  | win b o m c => exact Nat.lt_of_lt_of_le h hm
  | _ => exact h
theorem SV.Ok.le {s : SV} (h : s.Ok m) (hm : m ≤ m') : s.Ok m' := by
  cases s with
  | one c => exact Ch.Ok.le (c := c) h hm
  | agg l => exact fun c hc => (h c hc).le hm
  | tup l => exact fun p hp c hc => (h p hp c hc).le hm
  | und => trivial
theorem Ch.cells_ok {c : Ch} (h : c.Ok m) : (c.cells β).length = c.size ∧ ∀ u ∈ c.cells β, u.oneCell' = true := by
  cases c with
  | val x => exact ⟨rfl, fun u hu => by rw [List.mem_singleton.1 hu]; exact h⟩
  | ag n x =>
    obtain ⟨cs, rfl, hl, h1⟩ := h
    exact ⟨by simpa [Ch.cells, Value.cells, Ch.size] using hl, fun u hu => h1 u (by simpa [Ch.cells, Value.cells] using hu)⟩
  | sl x l =>
    obtain ⟨a, c, rfl, _⟩ := h
    exact ⟨rfl, fun u hu => by rw [List.mem_singleton.1 hu]; rfl⟩
  | _ => exact ⟨rfl, fun u hu => by rw [List.mem_singleton.1 hu]; rfl⟩
theorem Ch.cells_den {c : Ch} (h : c.Ok m) : (c.den β).cells = (c.cells β).toArray := by
  cases c with
  | val x => exact cells_one h
  | ag n x => obtain ⟨cs, rfl, hl, h1⟩ := h; simp [Ch.den, Ch.cells]
  | sl x l => obtain ⟨a, c, rfl, _⟩ := h; rfl
  | _ => rfl
theorem Ch.den_congr {c : Ch} (hb : ∀ i, i < m → β i = β' i) (h : c.Ok m) : c.den β = c.den β' := by
  cases c with
  | ptr b o => simp only [Ch.den]; rw [hb b h]
  | fn g cap =>
    simp only [Ch.den]
    congr 2
    refine List.map_congr_left fun x hx => ?_
    cases x with
    | inl b => simp only [capDen]; rw [hb b (h b hx)]
    | inr x => rfl
  | win b o n c => simp only [Ch.den]; rw [hb b h]
  | _ => rfl
theorem Ch.cells_congr {c : Ch} (hb : ∀ i, i < m → β i = β' i) (h : c.Ok m) : c.cells β = c.cells β' := by
  cases c with
  | ag n x => rfl
  | _ => exact congrArg (fun x => [x]) (Ch.den_congr hb h)
theorem cellsL_congr {l : List Ch} (hb : ∀ i, i < m → β i = β' i) (h : ∀ c ∈ l, c.Ok m) : cellsL β l = cellsL β' l := by
  induction l with
  | nil => rfl
  | cons c r ih =>
    simp only [cellsL, List.flatMap_cons] at ih ⊢
    rw [Ch.cells_congr hb (h c (List.mem_cons_self ..)), ih fun c hc => h c (List.mem_cons_of_mem _ hc)]
theorem SV.den_congr {s : SV} (hb : ∀ i, i < m → β i = β' i) (h : s.Ok m) : s.den β = s.den β' := by
  cases s with
  | one c => exact Ch.den_congr hb h
  | agg l => simp only [SV.den]; rw [cellsL_congr hb h]
  | tup l =>
    simp only [SV.den]
    congr 2
    refine List.map_congr_left fun p hp => ?_
    have h1 := h p hp
    obtain ⟨g, l⟩ := p
    cases g with
    | true => simp only [partDen]; rw [cellsL_congr hb h1]
    | false =>
      cases l with
      | nil => rfl
      | cons c r => exact Ch.den_congr hb (h1 c (List.mem_cons_self ..))
  | und => rfl
theorem cellsL_len {l : List Ch} (h : ∀ c ∈ l, c.Ok m) : (cellsL β l).length = sizeL l := by
  induction l with
  | nil => rfl
  | cons c r ih =>
    have h1 := (Ch.cells_ok (β := β) (h c (List.mem_cons_self ..))).1
    have h2 := ih fun c hc => h c (List.mem_cons_of_mem _ hc)
    simp only [cellsL, List.flatMap_cons, List.length_append, sizeL] at h2 ⊢
    omega
theorem cellsL_one {l : List Ch} (h : ∀ c ∈ l, c.Ok m) : ∀ u ∈ cellsL β l, u.oneCell' = true := by
  intro u hu
  obtain ⟨c, hc, hu⟩ := List.mem_flatMap.1 hu
  exact (Ch.cells_ok (h c hc)).2 u hu
theorem SV.chunks_ok {s : SV} {l : List Ch} (h : s.chunks = some l) (ok : s.Ok m) : (s.den β).cells = (cellsL β l).toArray ∧ ∀ c ∈ l, c.Ok m := by
  cases s with
  | one c =>
    simp only [SV.chunks, Option.some.injEq] at h
    subst h
    exact ⟨by simp only [SV.den, cellsL, List.flatMap_cons, List.flatMap_nil, List.append_nil]; exact Ch.cells_den ok, fun c hc => by rw [List.mem_singleton.1 hc]; exact ok⟩
  | agg l' =>
    simp only [SV.chunks, Option.some.injEq] at h
    subst h
    exact ⟨rfl, ok⟩
  | tup l' => cases h
  | und => cases h
end
/-- Parts at a place. -/
def chTake : List Ch → Nat → Option (List Ch)
  | _, 0 => some []
  | [], _ + 1 => none
  | c :: r, s => bif Nat.ble c.size s then (chTake r (s - c.size)).map (c :: ·) else none
def ldL : List Ch → Nat → Nat → Option (List Ch)
  | l, 0, s => chTake l s
  | [], _ + 1, _ => none
  | c :: r, o, s => bif Nat.ble c.size o then ldL r (o - c.size) s else none
def chDrop : List Ch → Nat → Option (List Ch)
  | l, 0 => some l
  | [], _ + 1 => none
  | c :: r, s => bif Nat.ble c.size s then chDrop r (s - c.size) else none
def stL : List Ch → Nat → Nat → List Ch → Option (List Ch)
  | l, 0, s, new => (chDrop l s).map (new ++ ·)
  | [], _ + 1, _, _ => none
  | c :: r, o, s, new => bif Nat.ble c.size o then (stL r (o - c.size) s new).map (c :: ·) else none
def mkV : Bool → List Ch → Option SV
  | true, [.ag n x] => some (.one (.ag n x))
  | true, l => some (.agg l)
  | false, [.ag _ _] => none
  | false, [c] => some (.one c)
  | false, _ => none
section
variable {m : Nat} {β : Nat → Nat}
theorem chTake_ok : ∀ {l : List Ch} {s : Nat} {l' : List Ch}, chTake l s = some l' → (∀ c ∈ l, c.Ok m) → (cellsL β l).take s = cellsL β l' ∧ (cellsL β l').length = s ∧ ∀ c ∈ l', c.Ok m := by
  intro l
  induction l with
  | nil =>
    intro s l' h hok
    cases s with
    | zero => simp only [chTake, Option.some.injEq] at h; subst h; exact ⟨rfl, rfl, hok⟩
    | succ s => cases h
  | cons c r ih =>
    intro s l' h hok
    cases s with
    | zero => simp only [chTake, Option.some.injEq] at h; subst h; exact ⟨rfl, rfl, fun _ hc => by cases hc⟩
    | succ s =>
      simp only [chTake] at h
      cases hb : Nat.ble c.size (s + 1) with
      | false => rw [hb] at h; cases h
      | true =>
        rw [hb] at h
        have hle := Nat.le_of_ble_eq_true hb
        have hc := (Ch.cells_ok (β := β) (hok c (List.mem_cons_self ..))).1
        cases ht : chTake r (s + 1 - c.size) with
        | none => rw [ht] at h; cases h
        | some r' =>
          rw [ht] at h
          simp only [cond_true, Option.map_some, Option.some.injEq] at h
          subst h
          obtain ⟨h1, h2, h3⟩ := ih ht fun c hc => hok c (List.mem_cons_of_mem _ hc)
          refine ⟨?_, ?_, ?_⟩
          · simp only [cellsL, List.flatMap_cons] at h1 ⊢
            rw [List.take_append, hc, h1, List.take_of_length_le (by omega)]
          · simp only [cellsL, List.flatMap_cons, List.length_append] at h2 ⊢
            omega
          · intro d hd
            rcases List.mem_cons.1 hd with rfl | hd
            · exact hok _ (List.mem_cons_self ..)
            · exact h3 d hd
theorem ldL_ok : ∀ {l : List Ch} {o s : Nat} {l' : List Ch}, ldL l o s = some l' → (∀ c ∈ l, c.Ok m) →
    ((cellsL β l).drop o).take s = cellsL β l' ∧ (cellsL β l').length = s ∧ ∀ c ∈ l', c.Ok m := by
  intro l
  induction l with
  | nil =>
    intro o s l' h hok
    cases o with
    | zero => simp only [ldL] at h; simpa using chTake_ok h hok
    | succ o => cases h
  | cons c r ih =>
    intro o s l' h hok
    cases o with
    | zero => simp only [ldL] at h; simpa using chTake_ok h hok
    | succ o =>
      simp only [ldL] at h
      cases hb : Nat.ble c.size (o + 1) with
      | false => rw [hb] at h; cases h
      | true =>
        rw [hb] at h
        simp only [cond_true] at h
        have hle := Nat.le_of_ble_eq_true hb
        have hc := (Ch.cells_ok (β := β) (hok c (List.mem_cons_self ..))).1
        obtain ⟨h1, h2, h3⟩ := ih h fun c hc => hok c (List.mem_cons_of_mem _ hc)
        refine ⟨?_, h2, h3⟩
        rw [← h1]
        simp only [cellsL, List.flatMap_cons]
        rw [List.drop_append, hc, List.drop_eq_nil_of_le (by omega), List.nil_append]
theorem chDrop_ok : ∀ {l : List Ch} {s : Nat} {l' : List Ch}, chDrop l s = some l' → (∀ c ∈ l, c.Ok m) → (cellsL β l).drop s = cellsL β l' ∧ s ≤ (cellsL β l).length ∧ ∀ c ∈ l', c.Ok m := by
  intro l
  induction l with
  | nil =>
    intro s l' h hok
    cases s with
    | zero => simp only [chDrop, Option.some.injEq] at h; subst h; exact ⟨rfl, Nat.zero_le _, hok⟩
    | succ s => cases h
  | cons c r ih =>
    intro s l' h hok
    cases s with
    | zero => simp only [chDrop, Option.some.injEq] at h; subst h; exact ⟨rfl, Nat.zero_le _, hok⟩
    | succ s =>
      simp only [chDrop] at h
      cases hb : Nat.ble c.size (s + 1) with
      | false => rw [hb] at h; cases h
      | true =>
        rw [hb] at h
        simp only [cond_true] at h
        have hle := Nat.le_of_ble_eq_true hb
        have hc := (Ch.cells_ok (β := β) (hok c (List.mem_cons_self ..))).1
        obtain ⟨h1, h2, h3⟩ := ih h fun c hc => hok c (List.mem_cons_of_mem _ hc)
        refine ⟨?_, ?_, h3⟩
        · rw [← h1]
          simp only [cellsL, List.flatMap_cons]
          rw [List.drop_append, hc, List.drop_eq_nil_of_le (by omega), List.nil_append]
        · simp only [cellsL, List.flatMap_cons, List.length_append] at h2 ⊢
          omega
theorem stL_ok : ∀ {l : List Ch} {o s : Nat} {new l' : List Ch}, stL l o s new = some l' → (∀ c ∈ l, c.Ok m) → (∀ c ∈ new, c.Ok m) →
    (cellsL β l).take o ++ cellsL β new ++ (cellsL β l).drop (o + s) = cellsL β l' ∧ o + s ≤ (cellsL β l).length ∧ ∀ c ∈ l', c.Ok m := by
  have base : ∀ {l : List Ch} {s : Nat} {new l' : List Ch}, (chDrop l s).map (new ++ ·) = some l' → (∀ c ∈ l, c.Ok m) → (∀ c ∈ new, c.Ok m) →
      (cellsL β l).take 0 ++ cellsL β new ++ (cellsL β l).drop (0 + s) = cellsL β l' ∧ 0 + s ≤ (cellsL β l).length ∧ ∀ c ∈ l', c.Ok m := by
    intro l s new l' h hok hnew
    cases hd : chDrop l s with
    | none => rw [hd] at h; cases h
    | some r =>
      rw [hd] at h
      simp only [Option.map_some, Option.some.injEq] at h
      subst h
      obtain ⟨h1, h2, h3⟩ := chDrop_ok (β := β) hd hok
      refine ⟨?_, by omega, ?_⟩
      · rw [Nat.zero_add, h1]
        simp [cellsL]
      · intro c hc
        rcases List.mem_append.1 hc with h | h
        · exact hnew c h
        · exact h3 c h
  intro l
  induction l with
  | nil =>
    intro o s new l' h hok hnew
    cases o with
    | zero => exact base (by simpa only [stL] using h) hok hnew
    | succ o => cases h
  | cons c r ih =>
    intro o s new l' h hok hnew
    cases o with
    | zero => exact base (by simpa only [stL] using h) hok hnew
    | succ o =>
      simp only [stL] at h
      cases hb : Nat.ble c.size (o + 1) with
      | false => rw [hb] at h; cases h
      | true =>
        rw [hb] at h
        have hle := Nat.le_of_ble_eq_true hb
        have hc := (Ch.cells_ok (β := β) (hok c (List.mem_cons_self ..))).1
        cases hs : stL r (o + 1 - c.size) s new with
        | none => rw [hs] at h; cases h
        | some r' =>
          rw [hs] at h
          simp only [cond_true, Option.map_some, Option.some.injEq] at h
          subst h
          obtain ⟨h1, h2, h3⟩ := ih hs (fun c hc => hok c (List.mem_cons_of_mem _ hc)) hnew
          refine ⟨?_, ?_, ?_⟩
          · simp only [cellsL, List.flatMap_cons] at h1 ⊢
            rw [← h1]
            rw [List.take_append, List.drop_append, hc, List.take_of_length_le (by omega), List.drop_eq_nil_of_le (by omega), List.nil_append]
            rw [show o + 1 + s - c.size = o + 1 - c.size + s by omega]
            simp
          · simp only [cellsL, List.flatMap_cons, List.length_append] at h2 ⊢
            omega
          · intro d hd
            rcases List.mem_cons.1 hd with rfl | hd
            · exact hok _ (List.mem_cons_self ..)
            · exact h3 d hd
theorem mkV_ok {g : Bool} {l : List Ch} {s : SV} (h : mkV g l = some s) (hok : ∀ c ∈ l, c.Ok m) :
    s.Ok m ∧ (g = true → s.den β = .agg (cellsL β l).toArray) ∧ (g = false → cellsL β l = [s.den β]) := by
  unfold mkV at h
  split at h
  · simp only [Option.some.injEq] at h
    subst h
    have h1 := hok _ (List.mem_cons_self ..)
    refine ⟨h1, fun _ => ?_, fun h => by cases h⟩
    obtain ⟨cs, rfl, hl, h2⟩ := h1
    simp [SV.den, Ch.den, cellsL, Ch.cells, Value.cells]
  · simp only [Option.some.injEq] at h
    subst h
    exact ⟨hok, fun _ => rfl, fun h => by cases h⟩
  · cases h
  · rename_i c hne
    simp only [Option.some.injEq] at h
    subst h
    refine ⟨hok _ (List.mem_cons_self ..), (fun h => by cases h), fun _ => ?_⟩
    simp only [cellsL, List.flatMap_cons, List.flatMap_nil, List.append_nil, SV.den]
    cases c with
    | ag n x => exact absurd rfl (hne n x)
    | _ => rfl
  · cases h
end
end Go.Proofs.YtpmnjjmngogkkaaGreatDoor
end

section
set_option linter.unusedVariables false
set_option linter.unusedSimpArgs false
namespace Go.Proofs.YtpmnjjmngogkkaaGreatDoor
open Go Go.RowKit
/-- What is known of a type. -/
inductive TKd where
  | int (k : IntKind)
  | bool
  | str
  | slice (e : TypeId)
  | array (n : Nat) (e : TypeId)
  | struct (fs : List (Nat × Nat × Bool))     -- place, size, whether it has parts
  | iface
  | ptr (e : TypeId)
  | other
structure TI where
  size : Nat
  bytes : Nat
  agg : Bool
  zero : List Ch
  kind : TKd
abbrev Env := List (TypeId × TI)
def Env.get : Env → TypeId → Option TI
  | [], _ => none
  | (i, t) :: r, d => bif Nat.beq i d then some t else Env.get r d
def fieldsB (P : Program) : List Field → List (Nat × Nat × Bool) → Bool
  | [], [] => true
  | f :: r, p :: q => (Nat.beq f.offset p.1) && (match P.info? f.type with | some i => Nat.beq i.size p.2.1 | none => false) && (match aggOf (P.underlying f.type) with | some g => g == p.2.2 | none => false) && fieldsB P r q
  | _, _ => false
def KindOk (P : Program) (t : TypeId) : TKd → Prop
  | .int k => P.underlying t = some (.int k)
  | .bool => P.underlying t = some .bool
  | .str => P.underlying t = some .string
  | .slice e => P.underlying t = some (.slice e)
  | .array n e => P.underlying t = some (.array n e)
  | .struct fs => ∃ fl : Array Field, P.underlying t = some (.struct fl) ∧ fieldsB P fl.toList fs = true ∧
      ∀ w, (fl.mapM fun f => Prod.mk f.offset <$> sizeOf f.type : Sem _).run P w = .ok (fs.map fun p => (p.1, p.2.1)).toArray w
  | .iface => ∃ ms, P.underlying t = some (.interface ms)
  | .ptr e => P.underlying t = some (.pointer e)
  | .other => True
structure TyOk (P : Program) (t : TypeId) (ti : TI) : Prop where
  ty : ∃ z, TyI P t ti.size ti.bytes z ti.agg ∧ z.cells = (cellsL (fun _ => 0) ti.zero).toArray
  ok : ∀ c ∈ ti.zero, c.Ok 0
  kind : KindOk P t ti.kind
def EnvOk (P : Program) (E : Env) : Prop := ∀ p ∈ E, TyOk P p.1 p.2
theorem EnvOk.get {P : Program} {E : Env} (h : EnvOk P E) : ∀ {t : TypeId} {ti : TI}, E.get t = some ti → TyOk P t ti := by
  induction E with
  | nil => intro t ti h; cases h
  | cons p r ih =>
    obtain ⟨i, u⟩ := p
    intro t ti hg
    simp only [Env.get] at hg
    cases hb : Nat.beq i t with
    | true =>
      rw [hb] at hg
      simp only [cond_true, Option.some.injEq] at hg
      subst hg
      obtain rfl := Nat.eq_of_beq_eq_true hb
      exact h _ (List.mem_cons_self ..)
    | false =>
      rw [hb] at hg
      exact ih (fun p hp => h p (List.mem_cons_of_mem _ hp)) hg
theorem fieldsB_get {P : Program} : ∀ {fl : List Field} {fs : List (Nat × Nat × Bool)}, fieldsB P fl fs = true → ∀ (f : Nat) (p : Nat × Nat × Bool), fs[f]? = some p →
    ∃ fd i, fl[f]? = some fd ∧ fd.offset = p.1 ∧ P.info? fd.type = some i ∧ i.size = p.2.1 ∧ aggOf (P.underlying fd.type) = some p.2.2 := by
  intro fl
  induction fl with
  | nil =>
    intro fs h f p hp
    cases fs with
    | nil => simp at hp
    | cons q r => cases h
  | cons a r ih =>
    intro fs h f p hp
    cases fs with
    | nil => cases h
    | cons q r' =>
      simp only [fieldsB, Bool.and_eq_true] at h
      obtain ⟨⟨⟨h1, h2⟩, h3⟩, h4⟩ := h
      cases f with
      | zero =>
        simp only [List.getElem?_cons_zero, Option.some.injEq] at hp
        subst hp
        cases hi : P.info? a.type with
        | none => rw [hi] at h2; cases h2
        | some i =>
          rw [hi] at h2
          cases hg : aggOf (P.underlying a.type) with
          | none => rw [hg] at h3; cases h3
          | some g =>
            rw [hg] at h3
            exact ⟨a, i, rfl, Nat.eq_of_beq_eq_true h1, hi, Nat.eq_of_beq_eq_true h2, by rw [hg]; simpa using h3⟩
      | succ f =>
        simp only [List.getElem?_cons_succ] at hp ⊢
        exact ih h4 f p hp
/-- What the call holds of memory: blocks of its own, slices of its own, what it gave away. -/
inductive HE where
  | blk (T : TypeId) (l : List Ch)
  | row (T : TypeId) (s : Nat) (v : Value) (n : Nat) (cs : List Value)
  | gone
def look : List (Nat × SV) → Nat → Option SV
  | [], _ => none
  | (i, s) :: r, d => bif Nat.beq i d then some s else look r d
def nth : List HE → Nat → Option HE
  | [], _ => none
  | h :: _, 0 => some h
  | _ :: r, i + 1 => nth r i
def setN : List HE → Nat → HE → List HE
  | [], _, _ => []
  | _ :: r, 0, x => x :: r
  | h :: r, i + 1, x => h :: setN r i x
theorem nth_eq : ∀ (l : List HE) (i : Nat), nth l i = l[i]? := by
  intro l
  induction l with
  | nil => intro i; simp [nth]
  | cons h r ih => intro i; cases i with
    | zero => simp [nth]
    | succ i => simp [nth, ih]
theorem setN_eq : ∀ (l : List HE) (i : Nat) (x : HE), setN l i x = l.set i x := by
  intro l
  induction l with
  | nil => intro i x; simp [setN]
  | cons h r ih => intro i x; cases i with
    | zero => simp [setN]
    | succ i => simp [setN, ih]
def litCh : Value → Option Ch
  | .int k z => some (.lit k z)
  | .bool x => some (.bb x)
  | .string s => some (.str s.data.toList)
  | .slice a m c => bif Nat.ble m c then some (.sl (.slice a m c) m) else none
  | .agg _ => none
  | .tuple _ => none
  | .float k x => some (.val (.float k x))
  | .complex k x y => some (.val (.complex k x y))
  | .pointer x => some (.val (.pointer x))
  | .map x => some (.val (.map x))
  | .chan x => some (.val (.chan x))
  | .func f a b => some (.val (.func f a b))
  | .nilFunc => some (.val .nilFunc)
  | .iface t x => some (.val (.iface t x))
  | .nilIface => some (.val .nilIface)
def litL : List Value → Option (List Ch)
  | [] => some []
  | x :: r => match litCh x, litL r with | some c, some l => some (c :: l) | _, _ => none
def litV : Value → Option SV
  | .agg cs => (litL cs.toList).map .agg
  | .tuple cs => match cs.toList with | [] => some .und | _ => none
  | x => (litCh x).map .one
def opd (fr : List (Nat × SV)) : Operand → Option SV
  | .tmp t => look fr t
  | .const v => litV v
  | .global g => some (.one (.val (.pointer (some ⟨g, 0, none⟩))))
  | .func f => some (.one (.fn f []))
theorem litCh_ok {β : Nat → Nat} {m : Nat} {x : Value} {c : Ch} (h : litCh x = some c) : c.den β = x ∧ c.Ok m ∧ x.oneCell' = true := by
  cases x <;> simp only [litCh, Option.some.injEq] at h
  case string s => subst h; exact ⟨by show Value.string ⟨s.data.toList.toArray⟩ = _; simp, trivial, rfl⟩
  case slice a n k =>
    cases hb : Nat.ble n k with
    | false => rw [hb] at h; cases h
    | true =>
      rw [hb] at h
      simp only [cond_true, Option.some.injEq] at h
      subst h
      exact ⟨rfl, ⟨_, _, rfl, Nat.le_of_ble_eq_true hb⟩, rfl⟩
  case agg => cases h
  case tuple => cases h
  all_goals (subst h; exact ⟨rfl, (by first | trivial | rfl), rfl⟩)
theorem litL_ok {β : Nat → Nat} {m : Nat} : ∀ {l : List Value} {r : List Ch}, litL l = some r → cellsL β r = l ∧ ∀ c ∈ r, c.Ok m := by
  intro l
  induction l with
  | nil => intro r h; simp only [litL, Option.some.injEq] at h; subst h; exact ⟨rfl, fun _ hc => by cases hc⟩
  | cons x r ih =>
    intro q h
    simp only [litL] at h
    cases h1 : litCh x with
    | none => rw [h1] at h; cases h
    | some c =>
      cases h2 : litL r with
      | none => rw [h1, h2] at h; cases h
      | some l =>
        rw [h1, h2] at h
        simp only [Option.some.injEq] at h
        subst h
        obtain ⟨e1, e2, e3⟩ := litCh_ok (β := β) (m := m) h1
        obtain ⟨e4, e5⟩ := ih h2
        refine ⟨?_, ?_⟩
        · simp only [cellsL, List.flatMap_cons] at e4 ⊢
          rw [e4]
          have h3 := Ch.cells_den (β := β) e2
          rw [e1, cells_one e3] at h3
          have h4 := congrArg Array.toList h3
          simp only at h4
          rw [← h4]
          rfl
        · intro d hd
          rcases List.mem_cons.1 hd with rfl | hd
          · exact e2
          · exact e5 d hd
theorem litV_ok {β : Nat → Nat} {m : Nat} {x : Value} {s : SV} (h : litV x = some s) : x = s.den β ∧ s.Ok m := by
  have one : ∀ {x : Value} {s : SV}, (litCh x).map .one = some s → x = s.den β ∧ s.Ok m := by
    intro x s h
    cases h1 : litCh x with
    | none => rw [h1] at h; cases h
    | some c =>
      rw [h1] at h
      simp only [Option.map_some, Option.some.injEq] at h
      subst h
      obtain ⟨e1, e2, _⟩ := litCh_ok (β := β) (m := m) h1
      exact ⟨e1.symm, e2⟩
  cases x
  case agg cs =>
    simp only [litV] at h
    cases h1 : litL cs.toList with
    | none => rw [h1] at h; cases h
    | some l =>
      rw [h1] at h
      simp only [Option.map_some, Option.some.injEq] at h
      subst h
      obtain ⟨e1, e2⟩ := litL_ok (β := β) (m := m) h1
      exact ⟨by simp [SV.den, e1], e2⟩
  case tuple cs =>
    simp only [litV] at h
    split at h
    · rename_i h1
      simp only [Option.some.injEq] at h
      subst h
      refine ⟨?_, trivial⟩
      have : cs = #[] := by simpa using h1
      subst this
      rfl
    · cases h
  all_goals exact one h
/-- What a value is, if it is known. -/
def Kn (β : Nat → Nat) (m : Nat) (x : Option SV) (v : Value) : Prop := ∀ s, x = some s → v = s.den β ∧ s.Ok m
theorem opd_kn {β : Nat → Nat} {m : Nat} {fr : List (Nat × SV)} {ρ : Fr} {x : Operand} (h : ∀ t, x = .tmp t → Kn β m (look fr t) (ρ t)) : Kn β m (opd fr x) (ev ρ x) := by
  cases x with
  | tmp t => exact h t rfl
  | const v => intro s hs; exact litV_ok hs
  | global g => intro s hs; simp only [opd, Option.some.injEq] at hs; subst hs; exact ⟨rfl, rfl⟩
  | func f =>
    intro s hs
    simp only [opd, Option.some.injEq] at hs
    subst hs
    exact ⟨rfl, fun b hb => by cases hb⟩
/-- The range of an integer. -/
def InR : IntKind → Int → Prop
  | .i8, z => -128 ≤ z ∧ z ≤ 127
  | .i16, z => -32768 ≤ z ∧ z ≤ 32767
  | .i32, z => -2147483648 ≤ z ∧ z ≤ 2147483647
  | .i64, z => -9223372036854775808 ≤ z ∧ z ≤ 9223372036854775807
  | .u8, z => 0 ≤ z ∧ z ≤ 255
  | .u16, z => 0 ≤ z ∧ z ≤ 65535
  | .u32, z => 0 ≤ z ∧ z ≤ 4294967295
  | .u64, z => 0 ≤ z ∧ z ≤ 18446744073709551615
theorem InR.wrap {k : IntKind} {z : Int} (h : InR k z) : k.wrap z = z := by
  cases k <;> simp only [InR] at h <;> simp [IntKind.wrap, IntKind.signed, IntKind.bits] <;> omega
def AllT : List Prop → Prop
  | [] => True
  | p :: r => p ∧ AllT r
theorem allT_append {a b : List Prop} : AllT (a ++ b) ↔ AllT a ∧ AllT b := by
  induction a with
  | nil => simp [AllT]
  | cons p r ih => simp [AllT, ih, and_assoc]
inductive Eff where
  | put (s : SV) (vc : List Prop)               -- the slot gets a value
  | mk (T : TypeId) (l : List Ch) (s : SV)      -- a new block; the slot gets what points to it
  | wr (b : Nat) (l : List Ch)                  -- a block is written
def zeroL : Value → Option (List Ch)
  | .agg cs => litL cs.toList
  | x => (litCh x).map fun c => [c]
def zeroD (z : Value) : List Ch := (zeroL z).getD []
theorem zeroL_ok {β : Nat → Nat} {m : Nat} {z : Value} {l : List Ch} (h : zeroL z = some l) : z.cells = (cellsL β l).toArray ∧ ∀ c ∈ l, c.Ok m := by
  have one : ∀ {x : Value}, (litCh x).map (fun c => [c]) = some l → x.cells = (cellsL β l).toArray ∧ ∀ c ∈ l, c.Ok m := by
    intro x h
    cases h1 : litCh x with
    | none => rw [h1] at h; cases h
    | some c =>
      rw [h1] at h
      simp only [Option.map_some, Option.some.injEq] at h
      subst h
      obtain ⟨e1, e2, e3⟩ := litCh_ok (β := β) (m := m) h1
      refine ⟨?_, fun d hd => by rw [List.mem_singleton.1 hd]; exact e2⟩
      have := Ch.cells_den (β := β) e2
      rw [e1] at this
      simpa [cellsL] using this
  cases z
  case agg cs =>
    obtain ⟨e1, e2⟩ := litL_ok (β := β) (m := m) h
    exact ⟨by rw [e1]; simp [Value.cells], e2⟩
  all_goals exact one h
theorem tyOk_mk {P : Program} {t : TypeId} {s b : Nat} {z : Value} {g : Bool} {kd : TKd} (ty : TyI P t s b z g) (hz : (zeroL z).isSome = true) (hk : KindOk P t kd) : TyOk P t ⟨s, b, g, zeroD z, kd⟩ := by
  cases h : zeroL z with
  | none => rw [h] at hz; cases hz
  | some l =>
    have e : zeroD z = l := by unfold zeroD; rw [h]; rfl
    rw [e]
    exact ⟨⟨z, ty, (zeroL_ok (m := 0) h).1⟩, (zeroL_ok (β := fun _ => 0) h).2, hk⟩
theorem envOk_nil {P : Program} : EnvOk P [] := fun p hp => by cases hp
theorem envOk_cons {P : Program} {p : TypeId × TI} {E : Env} (h : TyOk P p.1 p.2) (r : EnvOk P E) : EnvOk P (p :: E) := fun q hq => by
  rcases List.mem_cons.1 hq with rfl | hq
  · exact h
  · exact r q hq
end Go.Proofs.YtpmnjjmngogkkaaGreatDoor
end

section
set_option linter.unusedVariables false
set_option linter.unusedSimpArgs false
namespace Go.Proofs.YtpmnjjmngogkkaaGreatDoor
open Go Go.RowKit
/-- Where the operation's run ends. -/
def RunV (P : Program) (ρ : Operand → Value) (o : Op) (ty : TypeId) (w : World) (v : Value) : Prop := ∀ d pos aft g, (execOp ρ ⟨d, o, ty, pos, aft, g⟩).run P w = .ok (.value v) w
section
variable {P : Program} {E : Env} {β : Nat → Nat} {m : Nat} {w : World} {ty : TypeId} {ρ : Operand → Value}
def effPick : Option SV → Option SV → Option SV → Option Eff
  | some (.one (.bb true)), x, _ => x.map fun s => .put s []
  | some (.one (.bb false)), _, y => y.map fun s => .put s []
  | _, _, _ => none
theorem put_inj {s s' : SV} {vc vc' : List Prop} (h : Eff.put s vc = Eff.put s' vc') : s = s' ∧ vc = vc' := by cases h; exact ⟨rfl, rfl⟩
theorem mapPut {x : Option SV} {s : SV} {vc : List Prop} (h : (x.map fun s => Eff.put s []) = some (.put s vc)) : x = some s := by
  cases x with
  | none => cases h
  | some y => simp only [Option.map_some, Option.some.injEq] at h; rw [(put_inj h).1]
theorem effPick_ok {c x y : Operand} {cs xs ys : Option SV} {s : SV} {vc : List Prop} (hc : Kn β m cs (ρ c)) (hx : Kn β m xs (ρ x)) (hy : Kn β m ys (ρ y)) (h : effPick cs xs ys = some (.put s vc)) :
    RunV P ρ (.pick c x y) ty w (s.den β) ∧ s.Ok m := by
  unfold effPick at h
  split at h
  · have h1 := hc _ rfl
    have h2 := hx _ (mapPut h)
    refine ⟨fun d pos aft g => ?_, h2.2⟩
    simp [execOp, h1.1, SV.den, Ch.den, asBool, h2.1]
  · have h1 := hc _ rfl
    have h2 := hy _ (mapPut h)
    refine ⟨fun d pos aft g => ?_, h2.2⟩
    simp [execOp, h1.1, SV.den, Ch.den, asBool, h2.1]
  · cases h
/-- Two values and an operator. -/
def arr (x : Ch) (p : Prop) : Option (Ch × List Prop) := some (x, [p])
def pur (x : Ch) : Option (Ch × List Prop) := some (x, [])
def litBin (op : BinOp) (k : IntKind) (a b : Int) : Option (Ch × List Prop) :=
  match op with
  | .add => pur (.lit k (k.wrap (a + b)))
  | .sub => pur (.lit k (k.wrap (a - b)))
  | .mul => pur (.lit k (k.wrap (a * b)))
  | .quo => bif decide (b = 0) then none else pur (.lit k (k.wrap (a.tdiv b)))
  | .rem => bif decide (b = 0) then none else pur (.lit k (a.tmod b))
  | .eql => pur (.bb (decide (a = b)))
  | .neq => pur (.bb (!decide (a = b)))
  | .lss => pur (.bb (decide (a < b)))
  | .leq => pur (.bb (decide (a ≤ b)))
  | .gtr => pur (.bb (decide (b < a)))
  | .geq => pur (.bb (decide (b ≤ a)))
  | _ => none
def symBin (op : BinOp) (k : IntKind) (a b : Int) : Option (Ch × List Prop) :=
  match op with
  | .add => arr (.int k (a + b)) (InR k (a + b))
  | .sub => arr (.int k (a - b)) (InR k (a - b))
  | .mul => arr (.int k (a * b)) (InR k (a * b))
  | .quo => arr (.int k (a / b)) (0 ≤ a ∧ 0 < b ∧ InR k (a / b))
  | .rem => arr (.int k (a % b)) (0 ≤ a ∧ 0 < b)
  | .eql => pur (.tp (a = b))
  | .neq => pur (.tp (a ≠ b))
  | .lss => pur (.tp (a < b))
  | .leq => pur (.tp (a ≤ b))
  | .gtr => pur (.tp (b < a))
  | .geq => pur (.tp (b ≤ a))
  | _ => none
def propOf : Ch → Option Prop
  | .bb x => some (x = true)
  | .tp p => some p
  | _ => none
def boolBin (op : BinOp) (x y : Ch) : Option (Ch × List Prop) :=
  match propOf x, propOf y with
  | some p, some q => match op with
    | .eql => pur (.tp (p ↔ q))
    | .neq => pur (.tp (¬ (p ↔ q)))
    | _ => none
  | _, _ => none
def strBin (op : BinOp) (a b : List UInt8) : Option (Ch × List Prop) :=
  match op with
  | .eql => pur (.tp (a = b))
  | .neq => pur (.tp (a ≠ b))
  | .add => arr (.str (a ++ b)) (a.length + b.length ≤ 9223372036854775807)
  | _ => none
def isBoolT (E : Env) (t : TypeId) : Bool := match E.get t with | some ti => (match ti.kind with | .bool => true | _ => false) | none => false
def binC (E : Env) (op : BinOp) (t : TypeId) : Ch → Ch → Option (Ch × List Prop)
  | .lit k a, .lit k' b => bif decide (k = k') then litBin op k a b else none
  | .lit k a, .int k' b => bif decide (k = k') then symBin op k a b else none
  | .int k a, .lit k' b => bif decide (k = k') then symBin op k a b else none
  | .int k a, .int k' b => bif decide (k = k') then symBin op k a b else none
  | .str a, .str b => strBin op a b
  | x, y => bif isBoolT E t then boolBin op x y else none
theorem litBin_ok {op : BinOp} {k : IntKind} {a b : Int} {c : Ch} {vc : List Prop} (h : litBin op k a b = some (c, vc)) :
    (binOp op 0 (.int k a) (.int k b)).run P w = .ok (c.den β) w ∧ c.Ok m ∧ (∀ t, (binOp op t (.int k a) (.int k b)) = binOp op 0 (.int k a) (.int k b)) := by
  have hb0 : ∀ {x : Option (Ch × List Prop)}, (bif decide (b = 0) then none else x) = some (c, vc) → b ≠ 0 ∧ x = some (c, vc) := by
    intro x h
    by_cases e : b = 0
    · rw [decide_eq_true e] at h; cases h
    · rw [decide_eq_false e] at h; exact ⟨e, h⟩
  cases op <;> simp only [litBin, pur, Option.some.injEq, Prod.mk.injEq] at h
  case quo =>
    obtain ⟨h1, h2⟩ := hb0 h
    simp only [Option.some.injEq, Prod.mk.injEq] at h2
    obtain ⟨rfl, rfl⟩ := h2
    exact ⟨by simp [binOp, Op.intDiv, h1, Ch.den], trivial, fun t => rfl⟩
  case rem =>
    obtain ⟨h1, h2⟩ := hb0 h
    simp only [Option.some.injEq, Prod.mk.injEq] at h2
    obtain ⟨rfl, rfl⟩ := h2
    exact ⟨by simp [binOp, Op.intDiv, h1, Ch.den], trivial, fun t => rfl⟩
  all_goals first
    | (cases h; done)
    | (obtain ⟨rfl, rfl⟩ := h
       exact ⟨by simp [binOp, Op.intArith, Op.intCmp, Ch.den]; try (first | rfl | (by_cases e : a = b <;> simp [e, bne])), trivial, fun t => rfl⟩)
theorem symBin_ok {op : BinOp} {k : IntKind} {a b : Int} {c : Ch} {vc : List Prop} (h : symBin op k a b = some (c, vc)) (hv : AllT vc) :
    (binOp op 0 (.int k a) (.int k b)).run P w = .ok (c.den β) w ∧ c.Ok m ∧ (∀ t, (binOp op t (.int k a) (.int k b)) = binOp op 0 (.int k a) (.int k b)) := by
  have e1 : (a == b) = tst (a = b) := by rw [← decide_tst, Bool.eq_iff_iff]; simp
  have e2 : (a != b) = tst (a ≠ b) := by rw [← decide_tst, Bool.eq_iff_iff]; simp
  cases op <;> simp only [symBin, pur, arr, Option.some.injEq, Prod.mk.injEq] at h
  all_goals first
    | (cases h; done)
    | skip
  case quo =>
    obtain ⟨rfl, rfl⟩ := h
    obtain ⟨⟨h0, h1, h2⟩, _⟩ := hv
    exact ⟨by simp [binOp, Op.intDiv, show b ≠ 0 by omega, Ch.den, tdiv_pos h0, h2.wrap], trivial, fun t => rfl⟩
  case rem =>
    obtain ⟨rfl, rfl⟩ := h
    obtain ⟨⟨h0, h1⟩, _⟩ := hv
    exact ⟨by simp [binOp, Op.intDiv, show b ≠ 0 by omega, Ch.den, tmod_pos h0], trivial, fun t => rfl⟩
  case add => obtain ⟨rfl, rfl⟩ := h; exact ⟨by simp [binOp, Op.intArith, Ch.den, InR.wrap hv.1], trivial, fun t => rfl⟩
  case sub => obtain ⟨rfl, rfl⟩ := h; exact ⟨by simp [binOp, Op.intArith, Ch.den, InR.wrap hv.1], trivial, fun t => rfl⟩
  case mul => obtain ⟨rfl, rfl⟩ := h; exact ⟨by simp [binOp, Op.intArith, Ch.den, InR.wrap hv.1], trivial, fun t => rfl⟩
  all_goals
    obtain ⟨rfl, rfl⟩ := h
    exact ⟨by simp [binOp, Op.intCmp, Ch.den, e1, e2, decide_tst], trivial, fun t => rfl⟩
theorem propOf_ok {c : Ch} {p : Prop} (h : propOf c = some p) : c.den β = .bool (tst p) := by
  cases c <;> simp only [propOf, Option.some.injEq] at h <;> first | (cases h; done) | skip
  case bb x => subst h; cases x; exact congrArg Value.bool (tst_false (by simp)).symm; exact congrArg Value.bool (tst_true rfl).symm
  case tp q => subst h; rfl
theorem boolBin_ok {op : BinOp} {x y c : Ch} {t : TypeId} {vc : List Prop} (ht : P.underlying t = some .bool) (h : boolBin op x y = some (c, vc)) :
    (binOp op t (x.den β) (y.den β)).run P w = .ok (c.den β) w ∧ c.Ok m ∧ (∃ u u', x.den β = .bool u ∧ y.den β = .bool u') := by
  have bt : BoolT P t := ⟨ht⟩
  unfold boolBin at h
  cases hx : propOf x with
  | none => rw [hx] at h; cases h
  | some p =>
    cases hy : propOf y with
    | none => rw [hx, hy] at h; cases h
    | some q =>
      rw [hx, hy] at h
      have e1 := propOf_ok (β := β) hx
      have e2 := propOf_ok (β := β) hy
      have e3 : (tst p == tst q) = tst (p ↔ q) := by
        by_cases hp : p <;> by_cases hq : q
        · rw [tst_true hp, tst_true hq, tst_true ⟨fun _ => hq, fun _ => hp⟩]; rfl
        · rw [tst_true hp, tst_false hq, tst_false fun h => hq (h.1 hp)]; rfl
        · rw [tst_false hp, tst_true hq, tst_false fun h => hp (h.2 hq)]; rfl
        · rw [tst_false hp, tst_false hq, tst_true ⟨fun h => (hp h).elim, fun h => (hq h).elim⟩]; rfl
      cases op <;> simp only [pur, Option.some.injEq, Prod.mk.injEq] at h <;> first | (cases h; done) | skip
      · obtain ⟨rfl, rfl⟩ := h
        rw [e1, e2]
        exact ⟨by simp [binOp, run_equalB, Ch.den, e3], trivial, _, _, rfl, rfl⟩
      · obtain ⟨rfl, rfl⟩ := h
        rw [e1, e2]
        exact ⟨by simp [binOp, run_equalB, Ch.den, e3, bne, not_tst], trivial, _, _, rfl, rfl⟩
theorem strBin_ok {op : BinOp} {a b : List UInt8} {c : Ch} {vc : List Prop} (h : strBin op a b = some (c, vc)) (hv : AllT vc) :
    (binOp op 0 (strV a) (strV b)).run P w = .ok (c.den β) w ∧ c.Ok m ∧ (∀ t, (binOp op t (strV a) (strV b)) = binOp op 0 (strV a) (strV b)) := by
  have e0 : (a == b) = tst (a = b) := by
    rw [← decide_tst, Bool.eq_iff_iff]
    simp
  cases op <;> simp only [strBin, pur, arr, Option.some.injEq, Prod.mk.injEq] at h <;> first | (cases h; done) | skip
  · obtain ⟨rfl, rfl⟩ := h
    have h1 : ¬ (((⟨a.toArray⟩ : ByteArray).size + (⟨b.toArray⟩ : ByteArray).size : Nat) : Int) > IntKind.i64.max := by
      show ¬ ((a.toArray.size + b.toArray.size : Nat) : Int) > IntKind.i64.max
      have := hv.1
      simp [IntKind.max, IntKind.signed, IntKind.bits]
      omega
    have h2 : (⟨a.toArray⟩ : ByteArray) ++ ⟨b.toArray⟩ = ⟨(a ++ b).toArray⟩ := by
      apply ByteArray.ext
      simp
    exact ⟨by simp only [binOp, Op.stringOp, if_neg h1, h2, Ch.den]; simp, trivial, fun t => rfl⟩
  · obtain ⟨rfl, rfl⟩ := h
    exact ⟨by simp [binOp, Op.stringOp, Ch.den, e0], trivial, fun t => rfl⟩
  · obtain ⟨rfl, rfl⟩ := h
    exact ⟨by simp [binOp, Op.stringOp, Ch.den, bne, e0, not_tst], trivial, fun t => rfl⟩
end
end Go.Proofs.YtpmnjjmngogkkaaGreatDoor
end
