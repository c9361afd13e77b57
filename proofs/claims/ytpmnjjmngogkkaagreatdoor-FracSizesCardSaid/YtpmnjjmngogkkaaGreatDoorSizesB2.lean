/- Mag6 Mag7 Mag8 Int Int2 Mag2 Int3 DrawR Int4 Shelf Str Rat Rat2 Defer Kept Try Vec Vec2 Pars Rdq Eq New -/
import Derived.Test.YtpmnjjmngogkkaaGreatDoorSizesB1
import Derived.Shelf.Strings.Builder1
import Derived.Shelf.Strings.Builder2
import Derived.Shelf.Strings.Trim
import Derived.Shelf.Small.Utf8
import Derived.Shelf.Small.Strs
import Derived.Shelf.Small.Wraps
import Derived.Shelf.Strings.BuilderF
import Derived.Shelf.Strings.BuilderK
import Derived.Shelf.Strings.Builder2Cap
import Derived.Shelf.Strconv.Atoi
import Derived.Shelf.Strconv.Itoa0
import Derived.Shelf.Strconv.Itoa1
import Derived.Shelf.LaysM
import Derived.Shelf.Strconv.Itoa2
import Derived.Shelf.Strconv.Itoa3
import Derived.Shelf.Strconv.AtoiErrFast
import Derived.Shelf.Strconv.ParseIntEmpty
import Derived.Shelf.Strconv.AtoiFail
import Derived.Shelf.Strconv.Clone
import Derived.Shelf.Strconv.SyntaxError
import Derived.Shelf.LaysC
import Derived.Shelf.Strconv.ToError
import Derived.Shelf.Strconv.AtoiErr
import Derived.Shelf.Strconv.ErrVar
import Derived.Shelf.Strconv.Lower
import Derived.Shelf.Strconv.ParseUint10
import Derived.Shelf.Strconv.ParseUint10Empty
import Derived.Shelf.Strconv.ParseUint10Any
import Derived.Shelf.Strconv.ParseInt10
import Derived.Shelf.Strconv.AtoiLong
import Derived.Shelf.Strconv.AtoiInnerAll
import Derived.Shelf.Strconv.RangeError
import Derived.Shelf.Strconv.ToErrorRange
import Derived.Shelf.Strconv.AtoiAll
import Derived.Shelf.Strconv.ErrVarAll
import Derived.Shelf.Strconv.ParseUintEmpty
import Derived.Shelf.Strconv.ParseUint10b64
import Derived.Shelf.Strconv.ParseUint10b32
import Derived.Shelf.Strconv.ParseUint10b16
import Derived.Shelf.Strconv.ParseUint10b8
import Derived.Shelf.Strconv.ParseUint10At
import Derived.Shelf.Strconv.ParseInt10At64
import Derived.Shelf.Strconv.ParseInt10At32
import Derived.Shelf.Strconv.ParseInt10At16
import Derived.Shelf.Strconv.ParseInt10At8
import Derived.Shelf.Strconv.ParseInt10All
import Derived.Shelf.Strconv.ParseIntPublic10
import Derived.Shelf.Strconv.ErrVarParseInt
import Derived.Shelf.Strings.Search1
import Derived.Shelf.Strings.Search2
import Derived.Shelf.Strings.Cut
import Derived.Shelf.Strings.Shaped
import Derived.Shelf.Strings.Prefix
import Derived.Shelf.Unicode.Decode
import Derived.Shelf.Strings.Runes
import Derived.Shelf.Strings.AsciiSet
import Derived.Shelf.Bits.Mul64
import Derived.Shelf.Strings.Repeat
import Derived.Shelf.Unicode.DecodeSlow
import Derived.Shelf.Unicode.DecodeAny
import Derived.Shelf.Unicode.DecodeLast
import Derived.Shelf.Strings.BuilderCap
import Derived.Test.YtpmnjjmngogkkaaGreatDoorProg
import Derived.Lib.ItoaNum
section
set_option linter.unusedVariables false
namespace Go.Proofs.YtpmnjjmngogkkaaGreatDoor
open Go Go.RowKit
theorem shifted_c {S : Nat → Prop} {w : World} {va : Value} {a c : Nat} (hS : Up S w) (ha : NatV S 127 .u32 w va a) (hla : dl a ≤ 1099511627776) (hc : c < 1000000000) :
    Gives Tryz.prog 178 [va, .int .u32 c] w fun v' w' => Ext w w' ∧ NatV S 127 .u32 w' v' (c + 1000000000 * a) := by
  refine gives_of Tryz.func178 rfl rfl rfl ?_
  repeat (first | refine wp_seq_region ?_ | refine wp_region ?_ | refine r_move (by conv => (lhs; whnf)) ?_ | refine r_assign (by conv => (lhs; whnf)) ?_ | refine r_nil ?_)
  refine r_lit1 (by conv => (lhs; whnf)) rfl ?_
  intro w1 g1 k1 h1 hg1
  replace ha := ha.to k1
  have hla' : (dg a).length ≤ 1099511627776 := hla
  repeat (first | refine r_move (by conv => (lhs; whnf)) ?_)
  refine r_append_row (by conv => (lhs; whnf)) (own_blk h1 hg1 (by unfold maxLen; omega) rfl) (by conv => (lhs; whnf)) ha (by omega) ones_map (by unfold maxLen; omega) (by omega) k1.size ?_
  intro v2 w2 ho k2
  skip
  have hd : Digs (c :: dg a) := (digs_dg a).cons hc
  refine r_call (trim_c (S := S) (v := v2) (l := c :: dg a) ?_ hd) rfl ?_
  · have h4 := Row.of_own ho hS
    rw [Nat.add_comm] at h4
    exact h4
  · rintro v3 w3 ⟨rfl, h3⟩
    repeat (first | refine r_assign (by conv => (lhs; whnf)) ?_ | refine r_nil ?_ | refine q_then ?_ | refine wp_ret ?_)
    refine end_tmp rfl (by conv => (lhs; whnf)) ⟨?_, ?_⟩
    · exact Keeps.later k1 k2 fun i hi _ e => by simp [Value.ownBlock] at e; omega
    · simpa [nval, nval_dg] using h3
/-- The state of multiplication: out holds the sum so far. -/
theorem times_c {S : Nat → Prop} {w : World} {va vb : Value} {a b : Nat} (hS : Up S w) (ha : NatV S 127 .u32 w va a) (hb : NatV S 127 .u32 w vb b) (hla : dl a ≤ 1099511627776) (hlb : dl b ≤ 1099511627776) :
    Gives Tryz.prog 147 [va, vb] w fun v' w' => Ext w w' ∧ NatV S 127 .u32 w' v' (a * b) := by
  have hla' : (dg a).length ≤ 1099511627776 := hla
  have hlb' : (dg b).length ≤ 1099511627776 := hlb
  refine gives_of Tryz.func147 rfl rfl rfl ?_
  repeat (first | refine wp_seq_region ?_ | refine wp_region ?_ | refine r_move (by conv => (lhs; whnf)) ?_ | refine r_assign (by conv => (lhs; whnf)) ?_ | refine r_nil ?_ | refine r_len (by conv => (lhs; whnf)) (by assumption) ?_ | refine r_addI rfl rfl (by omega) (by omega) ?_)
  refine r_make (l := (dg a).length + (dg b).length) (c := (dg a).length + (dg b).length) rfl rfl (by omega) (by omega) (Nat.le_refl _) (by omega) (by unfold maxLen; omega) ?_
  intro w1 g k1 hg hgs
  have hg : Blk w1 g 127 ((List.replicate ((dg a).length + (dg b).length) 0).map fun d : Nat => .int .u32 d) := by
    simpa [toList_madeCells_one, Value.cells, List.map_replicate] using hg
  have ha0 := ha.mono (S' := fun k => S k ∧ k < w.heap.size) fun i hi hs => ⟨hs, hi⟩
  have hb0 := hb.mono (S' := fun k => S k ∧ k < w.heap.size) fun i hi hs => ⟨hs, hi⟩
  repeat (first | refine wp_seq_region ?_ | refine wp_seq_seq ?_ | refine wp_region ?_ | refine r_move (by conv => (lhs; whnf)) ?_ | refine r_assign (by conv => (lhs; whnf)) ?_ | refine r_nil ?_ | refine q_then ?_ | refine r_len (by conv => (lhs; whnf)) (by assumption) ?_)
  try refine wp_seq_block ?_
  refine wp_for [(6, 11), (20, 66)] (fun k ρ w' => ∃ (i : Nat) (o : List Nat), k + i = (dg a).length ∧ ρ 20 = .int .i64 i ∧ o.length = (dg a).length + (dg b).length ∧ Digs o ∧ nval o = nval ((dg a).take i) * b ∧ (∀ j, i + (dg b).length ≤ j → o.getD j 0 = 0) ∧
      Blk w' g 127 (o.map fun d : Nat => .int .u32 d) ∧ Keeps (fun k => k < w.heap.size) w w') (dg a).length
    ⟨0, List.replicate ((dg a).length + (dg b).length) 0, by omega, rfl, by simp, fun x hx => by rw [List.eq_of_mem_replicate hx]; omega, by rw [nval_zeros]; simp [nval], fun j _ => by simp [List.getD_eq_getElem?_getD, List.getElem?_replicate]; split <;> rfl, hg, k1.mono fun _ _ => trivial⟩ ?_
  rintro k u w2 ⟨i, o, hki, h20, hol, hod, hv, hz, hg2, k2⟩
  refine wp_learn 20 h20 ?_
  clear h20 hg
  have ha2 : NatV (fun k => S k ∧ k < w.heap.size) 127 .u32 w2 va a := ha0.keep (k2.mono fun i hi => hi.2)
  have hb2 : NatV (fun k => S k ∧ k < w.heap.size) 127 .u32 w2 vb b := hb0.keep (k2.mono fun i hi => hi.2)
  have hda := dg_lt a i
  repeat (first | refine wp_seq_region ?_ | refine wp_region ?_ | refine r_nil ?_ | refine q_then ?_ | refine r_lss rfl rfl ?_)
  try refine wp_seq_cond ?_
  refine wp_cond_dec rfl ?_ ?_ <;> intro hc
  · repeat (first | refine r_index1 (by conv => (lhs; whnf)) rfl rfl ha2 (by omega) ?_ | refine r_load_dig rfl ha2 (by omega) ?_ | refine wp_seq_region ?_ | refine wp_seq_seq ?_ | refine wp_seq_bseq ?_ | refine wp_region ?_ | refine r_move (by conv => (lhs; whnf)) ?_ | refine r_assign (by conv => (lhs; whnf)) ?_ | refine r_nil ?_ | refine q_then ?_ | refine wp_block_seq ?_ | refine wp_skip ?_ | refine r_len (by conv => (lhs; whnf)) (by assumption) ?_)
    obtain ⟨x, hx⟩ : ∃ x, x = (dg a).getD i 0 := ⟨_, rfl⟩
    rw [← hx] at hda ⊢
    first | refine wp_seq_block ?_ | refine wp_thenB ?_ | refine wp_thenBB ?_ | skip
    refine wp_mid [(8, 11), (27, 57)] (fun ρ w' => ∃ (o' : List Nat) (c : Nat), ρ 8 = .int .u64 c ∧ c < 1000000000 ∧ o'.length = o.length ∧ Digs o' ∧ nval o' + 1000000000 ^ (i + (dg b).length) * c = nval o + 1000000000 ^ i * (x * b) ∧
        (∀ j, i + (dg b).length ≤ j → o'.getD j 0 = 0) ∧ Blk w' g 127 (o'.map fun d : Nat => .int .u32 d) ∧ Keeps (fun k => k < w.heap.size) w w') ?_ ?_
    · try refine wp_seq_block ?_
      refine wp_for [(8, 11), (27, 57)] (fun k ρ w' => ∃ (j : Nat) (o' : List Nat) (c : Nat), k + j = (dg b).length ∧ ρ 27 = .int .i64 j ∧ ρ 8 = .int .u64 c ∧ c < 1000000000 ∧ o'.length = o.length ∧ Digs o' ∧ nval o' + 1000000000 ^ (i + j) * c = nval o + 1000000000 ^ i * (x * nval ((dg b).take j)) ∧
        (∀ j, i + (dg b).length ≤ j → o'.getD j 0 = 0) ∧ Blk w' g 127 (o'.map fun d : Nat => .int .u32 d) ∧ Keeps (fun k => k < w.heap.size) w w') (dg b).length
        ⟨0, o, 0, by omega, rfl, rfl, by omega, rfl, hod, by simp [nval], hz, hg2, k2⟩ ?_
      rintro k' u3 w3 ⟨j, o', c, hkj, h27, h8, hcb, hol', hod', hv', hz', hg3, k3⟩
      refine wp_learn 27 h27 (wp_learn 8 h8 ?_)
      clear h27 h8
      have hb3 : NatV (fun k => S k ∧ k < w.heap.size) 127 .u32 w3 vb b := hb0.keep (k3.mono fun i hi => hi.2)
      have hdb := dg_lt b j
      repeat (first | refine wp_seq_region ?_ | refine wp_region ?_ | refine r_nil ?_ | refine q_then ?_ | refine r_lss rfl rfl ?_)
      try refine wp_seq_cond ?_
      refine wp_cond_dec rfl ?_ ?_ <;> intro hcj
      · have hm : ((x : Nat) : Int) * ((dg b).getD j 0 : Nat) ≤ 999999999 * 999999999 := Int.mul_le_mul (by omega) (by omega) (by omega) (by omega)
        have hm0 : 0 ≤ ((x : Nat) : Int) * ((dg b).getD j 0 : Nat) := Int.mul_nonneg (by omega) (by omega)
        have hdo := hod'.getD (i + j)
        repeat (first | refine r_index1 (by conv => (lhs; whnf)) rfl rfl hb3 (by omega) ?_ | refine r_load_dig rfl hb3 (by omega) ?_ | refine r_mulU rfl rfl (by omega) (by omega) ?_ | refine r_index_own (i := i + j) rfl rfl (by omega) (by omega) ?_ | refine r_load_digs rfl hg3 (by omega) ?_ | refine r_addU rfl rfl (by omega) (by omega) ?_ | refine wp_seq_region ?_ | refine wp_seq_bseq ?_ | refine wp_region ?_ | refine r_move (by conv => (lhs; whnf)) ?_ | refine r_assign (by conv => (lhs; whnf)) ?_ | refine r_nil ?_ | refine wp_block_seq ?_ | refine wp_skip ?_ | refine r_addI rfl rfl (by omega) (by omega) ?_ | refine r_conv rfl (wrap_u64 (by omega) (by omega)) ?_ | refine r_conv rfl (wrap_u32 (by omega) (by omega)) ?_ | refine r_remP rfl rfl (by omega) (by omega) ?_)
        refine r_store_digs (c := (x * (dg b).getD j 0 + o'.getD (i + j) 0 + c) % 1000000000) rfl rfl (by rw [← Int.natCast_mul]; omega) hg3 (by omega) ?_
        intro w4 k4 hg4
        repeat (first | refine wp_region ?_ | refine r_move (by conv => (lhs; whnf)) ?_ | refine r_assign (by conv => (lhs; whnf)) ?_ | refine r_nil ?_ | refine q_then ?_ | refine r_addI rfl rfl (by omega) (by omega) ?_ | refine r_quoU rfl rfl (by omega) (by omega) (by omega) ?_)
        have hms := mul_step (m := x * (dg b).getD j 0) (show i + j < o'.length by omega) hv'
        have hmn : ((x * (dg b).getD j 0 : Nat) : Int) = x * ((dg b).getD j 0 : Nat) := Int.natCast_mul _ _
        refine ⟨by (repeat (first | refine agree_upd rfl ?_ | exact agree_over | refine agree_sub rfl ?_ | exact agree_refl)), k' - 1, by omega, j + 1, o'.set (i + j) ((x * (dg b).getD j 0 + o'.getD (i + j) 0 + c) % 1000000000), (x * (dg b).getD j 0 + o'.getD (i + j) 0 + c) / 1000000000, by omega, rfl,
          congrArg (Value.int .u64) (by omega), by omega, by simpa using hol', hod'.set (by omega) _, ?_, fun q hq => ?_, hg4, k3.trans (k4.mono fun q hq => by omega)⟩
        · rw [← Nat.add_assoc, hms, nval_take_succ (by omega)]
          rw [Nat.mul_add, Nat.mul_add, Nat.add_assoc]
          congr 2
          rw [Nat.pow_add, Nat.mul_assoc]
          congr 1
          rw [← Nat.mul_assoc, ← Nat.mul_assoc, Nat.mul_comm x]
        · rw [getD_set_other (by omega)]
          exact hz' q hq
      · repeat (first | refine q_then ?_ | refine wp_exit ?_ | refine q_then_exit ?_ | refine q_block_hit rfl ?_)
        obtain rfl : j = (dg b).length := by omega
        rw [List.take_of_length_le (Nat.le_refl _), nval_dg] at hv'
        exact ⟨by (repeat (first | refine agree_upd rfl ?_ | exact agree_over | refine agree_sub rfl ?_ | exact agree_refl)), o', c, rfl, hcb, hol', hod', hv', hz', hg3, k3⟩
    · rintro u3 w3 ⟨o', c, h8, hcb, hol', hod', hv', hz', hg3, k3⟩
      refine wp_learn 8 h8 ?_
      clear h8
      repeat (first | refine r_index_own (i := i + (dg b).length) rfl rfl (by omega) (by omega) ?_ | refine wp_region ?_ | refine r_move (by conv => (lhs; whnf)) ?_ | refine r_len (by conv => (lhs; whnf)) (by assumption) ?_ | refine r_addI rfl rfl (by omega) (by omega) ?_ | refine r_conv rfl (wrap_u32 (by omega) (by omega)) ?_)
      refine r_store_digs (c := c) rfl rfl rfl hg3 (by omega) ?_
      intro w4 k4 hg4
      repeat (first | refine wp_region ?_ | refine r_move (by conv => (lhs; whnf)) ?_ | refine r_nil ?_ | refine q_then ?_ | refine r_addI rfl rfl (by omega) (by omega) ?_)
      have hns := nval_set o' c (show i + (dg b).length < o'.length by omega)
      rw [hz' _ (Nat.le_refl _), Nat.mul_zero] at hns
      refine ⟨by (repeat (first | refine agree_upd rfl ?_ | exact agree_over | refine agree_sub rfl ?_ | exact agree_refl)), k - 1, by omega, i + 1, o'.set (i + (dg b).length) c, by omega, rfl, by simp; omega, hod'.set hcb _, ?_, fun q hq => ?_, hg4, k3.trans (k4.mono fun q hq => by omega)⟩
      · rw [nval_take_succ (by omega), Nat.add_mul, ← hv, ← hx, Nat.mul_assoc]
        omega
      · rw [getD_set_other (by omega)]
        exact hz' q (by omega)
  · repeat (first | refine wp_seq_region ?_ | refine wp_region ?_ | refine r_move (by conv => (lhs; whnf)) ?_ | refine wp_exit ?_)
    obtain rfl : i = (dg a).length := by omega
    rw [List.take_of_length_le (Nat.le_refl _), nval_dg] at hv
    refine r_call (trim_c (S := S) (v := .slice (some ⟨g, 0, none⟩) ((dg a).length + (dg b).length) ((dg a).length + (dg b).length)) (l := o) ?_ hod) rfl ?_
    · have h4 := Row.of_blk (S := S) (s := 1) (n := o.length) (cap := o.length) hg2 (hS g hgs) (Nat.le_refl _) (by unfold maxLen; omega) (by simp)
      rw [Nat.mul_one, List.take_of_length_le (by simp)] at h4
      rw [← hol]
      exact h4
    · rintro v3 w3 ⟨rfl, h3⟩
      repeat (first | refine r_assign (by conv => (lhs; whnf)) ?_ | refine r_nil ?_ | refine q_then ?_ | refine wp_ret ?_)
      refine end_tmp rfl (by conv => (lhs; whnf)) ⟨?_, ?_⟩
      · exact Keeps.later .refl k2 fun i hi _ => hi
      · rw [← hv]; exact h3
end Go.Proofs.YtpmnjjmngogkkaaGreatDoor
end

section
set_option linter.unusedVariables false
namespace Go.Proofs.YtpmnjjmngogkkaaGreatDoor
open Go Go.RowKit
theorem lead_c {S : Nat → Prop} {w : World} {va : Value} {a n : Nat} (ha : NatV S 127 .u32 w va a) (hn : n ≤ 1099511627777) :
    Gives Tryz.prog 179 [va, .int .i64 n] w fun v' w' => (∃ r, v' = .float .f64 r) ∧ Ext w w' := by
  refine gives_of Tryz.func179 rfl rfl rfl ?_
  repeat (first | refine wp_seq_region ?_ | refine wp_seq_seq ?_ | refine wp_region ?_ | refine r_move (by conv => (lhs; whnf)) ?_ | refine r_assign (by conv => (lhs; whnf)) ?_ | refine r_nil ?_ | refine q_then ?_ | refine r_subI rfl rfl (by omega) (by omega) ?_)
  try refine wp_seq_block ?_
  refine wp_for [(5, 6), (9, 24)] (fun k ρ w' => ∃ (i : Int) (r : Nat), k = (i + 4 - n).toNat ∧ ρ 6 = .int .i64 i ∧ ρ 5 = .float .f64 r ∧ (n : Int) - 4 ≤ i ∧ i ≤ n - 1 ∧ Ext w w') 3 ⟨(n : Int) - 1, 0, by omega, rfl, rfl, by omega, by omega, .refl⟩ ?_
  rintro k u w2 ⟨i, r, hk, h6, h5, hi1, hi2, k2⟩
  refine wp_learn 6 h6 (wp_learn 5 h5 ?_)
  clear h6 h5
  repeat (first | refine wp_seq_region ?_ | refine wp_seq_seq ?_ | refine wp_region ?_ | refine r_move (by conv => (lhs; whnf)) ?_ | refine r_nil ?_ | refine q_then ?_ | refine r_geq rfl rfl ?_ | refine r_subI rfl rfl (by omega) (by omega) ?_)
  try refine wp_seq_cond ?_
  refine wp_cond_dec rfl ?_ ?_ <;> intro hc
  · repeat (first | refine wp_seq_region ?_ | refine wp_seq_bseq ?_ | refine wp_region ?_ | refine r_move (by conv => (lhs; whnf)) ?_ | refine wp_block_seq ?_ | refine wp_skip ?_)
    refine r_float rfl rfl (by simp) ?_
    intro r1 w3 k3
    repeat (first | refine wp_seq_region ?_ | refine wp_region ?_ | refine r_move (by conv => (lhs; whnf)) ?_ | refine r_assign (by conv => (lhs; whnf)) ?_ | refine r_nil ?_ | refine q_then ?_ | refine r_geq rfl rfl ?_)
    first | refine wp_seq_cond ?_ | refine wp_thenB ?_ | refine wp_thenBB ?_ | skip
    refine wp_join [(5, 5), (19, 24)] (fun ρ w' => ∃ r2 : Nat, ρ 5 = .float .f64 r2 ∧ Ext w w') rfl ?_ ?_ ?_
    · intro hi0
      obtain ⟨m, rfl⟩ := Int.eq_ofNat_of_zero_le hi0
      repeat (first | refine wp_region ?_ | refine r_move (by conv => (lhs; whnf)) ?_)
      refine r_call (at_c m (ha.to (k2.trans k3))) rfl ?_
      rintro v4 w4 ⟨rfl, k4⟩
      repeat (first | refine r_tofloat rfl ?_)
      intro r2
      refine r_float rfl rfl (by simp) ?_
      intro r3 w5 k5
      repeat (first | refine r_assign (by conv => (lhs; whnf)) ?_ | refine r_nil ?_ | refine q_then ?_)
      exact ⟨by (repeat (first | refine agree_upd rfl ?_ | exact agree_over | refine agree_sub rfl ?_ | exact agree_refl)), r3, rfl, ((k2.trans k3).trans k4).trans k5⟩
    · intro hi0
      repeat (first | refine q_then ?_ | refine wp_skip ?_)
      exact ⟨by (repeat (first | refine agree_upd rfl ?_ | exact agree_over | refine agree_sub rfl ?_ | exact agree_refl)), r1, rfl, k2.trans k3⟩
    · rintro u4 w4 ⟨r2, h5, k4⟩
      refine wp_learn 5 h5 ?_
      clear h5
      repeat (first | refine wp_region ?_ | refine r_move (by conv => (lhs; whnf)) ?_ | refine r_assign (by conv => (lhs; whnf)) ?_ | refine r_nil ?_ | refine q_then ?_ | refine r_subI rfl rfl (by omega) (by omega) ?_)
      exact ⟨by (repeat (first | refine agree_upd rfl ?_ | exact agree_over | refine agree_sub rfl ?_ | exact agree_refl)), k - 1, by omega, i - 1, r2, by omega, rfl, rfl, by omega, by omega, k4⟩
  · repeat (first | refine wp_seq_region ?_ | refine wp_region ?_ | refine r_move (by conv => (lhs; whnf)) ?_ | refine r_assign (by conv => (lhs; whnf)) ?_ | refine r_nil ?_ | refine q_then ?_ | refine wp_ret ?_ | refine wp_exit ?_)
    exact end_tmp rfl (by conv => (lhs; whnf)) ⟨⟨r, rfl⟩, k2⟩
theorem dl_lt_mul {r b d : Nat} (h : r < b) (hd : d < 1000000000) : dl (d + 1000000000 * r) ≤ dl b + 1 := by
  refine dl_le ?_
  rw [Nat.pow_succ]
  have := lt_pow_dl b
  omega
theorem dl_mul32 {b g : Nat} (hg : g ≤ 4294967295) : dl (b * g) ≤ dl b + 2 := by
  refine dl_le ?_
  rw [Nat.pow_add]
  have := lt_pow_dl b
  exact Nat.mul_lt_mul_of_lt_of_le this (by omega) (by omega)
theorem drop_step {l : List Nat} {m : Nat} (h : m < l.length) : nval (l.drop m) = l.getD m 0 + 1000000000 * nval (l.drop (m + 1)) := by
  rw [List.drop_eq_getElem_cons h, nval, List.getD_eq_getElem?_getD, List.getElem?_eq_getElem h]
  rfl
theorem drop_set_lt {l : List Nat} {m d : Nat} : (l.set m d).drop (m + 1) = l.drop (m + 1) := by
  rw [List.drop_set_of_lt (by omega)]
set_option maxHeartbeats 2000000 in
theorem over_c {S : Nat → Prop} {w : World} {va vb : Value} {a b : Nat} (hS : Up S w) (ha : NatV S 127 .u32 w va a) (hb : NatV S 127 .u32 w vb b) (hla : dl a ≤ 1099511627000) (hlb : dl b ≤ 1099511627000) (hb0 : 0 < b) :
    Gives Tryz.prog 141 [va, vb] w fun v' w' => ∃ vq vr, v' = .tuple #[vq, vr] ∧ Ext w w' ∧ NatV S 127 .u32 w' vq (a / b) ∧ NatV S 127 .u32 w' vr (a % b) := by
  have hla' : (dg a).length ≤ 1099511627000 := hla
  have hlb' : (dg b).length ≤ 1099511627000 := hlb
  refine gives_of Tryz.func141 rfl rfl rfl ?_
  repeat (first | refine wp_seq_region ?_ | refine wp_seq_seq ?_ | refine wp_region ?_ | refine r_move (by conv => (lhs; whnf)) ?_ | refine r_assign (by conv => (lhs; whnf)) ?_ | refine r_nil ?_)
  refine r_call (compare_c ha hb) rfl ?_
  rintro v1 w1 ⟨k1, c, rfl, hc⟩
  repeat (first | refine r_nil ?_ | refine q_then ?_ | refine r_lss rfl rfl ?_)
  try refine wp_seq_cond ?_
  refine wp_cond_dec rfl ?_ ?_ <;> intro hcl
  · repeat (first | refine wp_seq_region ?_ | refine wp_region ?_ | refine r_move (by conv => (lhs; whnf)) ?_ | refine r_assign (by conv => (lhs; whnf)) ?_ | refine r_nil ?_ | refine q_then ?_ | refine wp_ret ?_ | refine q_then_ret ?_)
    have hab : a < b := hc.1.1 hcl
    refine end_tmp2 rfl (by conv => (lhs; whnf)) (by conv => (lhs; whnf)) ⟨_, _, rfl, k1, ?_, ?_⟩
    · rw [Nat.div_eq_of_lt hab]; exact Row.nil
    · rw [Nat.mod_eq_of_lt hab]; exact ha.to k1
  · repeat (first | refine wp_seq_region ?_ | refine wp_region ?_ | refine r_move (by conv => (lhs; whnf)) ?_ | refine wp_skip ?_ | refine r_len (by conv => (lhs; whnf)) (by assumption) ?_)
    refine r_make (l := (dg a).length) (c := (dg a).length) rfl rfl rfl rfl (Nat.le_refl _) (by omega) (by unfold maxLen; omega) ?_
    intro w2 q k2 hg hgs
    have hg : Blk w2 q 127 ((List.replicate (dg a).length 0).map fun d : Nat => .int .u32 d) := by
      simpa [toList_madeCells_one, Value.cells, List.map_replicate] using hg
    have k12 := k1.trans k2
    have hq := hg.lt
    have hs1 := k1.size
    have hs12 := k12.size
    have hS2 : Up (fun k => S k ∧ k ≠ q) w2 := fun i hi => ⟨hS i (by omega), by omega⟩
    have ha2 := (ha.mono (S' := fun k => S k ∧ k ≠ q) fun i hi hs => ⟨hs, by omega⟩).to k12
    have hb2 := (hb.mono (S' := fun k => S k ∧ k ≠ q) fun i hi hs => ⟨hs, by omega⟩).to k12
    repeat (first | refine wp_seq_region ?_ | refine wp_seq_seq ?_ | refine wp_region ?_ | refine r_move (by conv => (lhs; whnf)) ?_ | refine r_assign (by conv => (lhs; whnf)) ?_ | refine r_nil ?_ | refine q_then ?_ | refine r_len (by conv => (lhs; whnf)) (by assumption) ?_ | refine r_subI rfl rfl (by omega) (by omega) ?_)
    try refine wp_seq_block ?_
    refine wp_for [(7, 10), (22, 77)] (fun k ρ w' => ∃ (o : List Nat) (r : Nat) (vr : Value), ρ 8 = .int .i64 ((k : Int) - 1) ∧ ρ 7 = vr ∧ r < b ∧ k ≤ o.length ∧ o.length = (dg a).length ∧ Digs o ∧ (∀ j, j < k → o.getD j 0 = 0) ∧
        nval ((dg a).drop k) = nval (o.drop k) * b + r ∧ Blk w' q 127 (o.map fun d : Nat => .int .u32 d) ∧ NatV (fun k => S k ∧ k ≠ q) 127 .u32 w' vr r ∧ Keeps (fun k => k ≠ q) w2 w') (dg a).length
      ⟨List.replicate (dg a).length 0, 0, _, rfl, rfl, hb0, by simp, by simp, fun x hx => by rw [List.eq_of_mem_replicate hx]; omega, fun j _ => by simp [List.getD_eq_getElem?_getD, List.getElem?_replicate]; split <;> rfl, by simp [nval], hg, Row.nil, .refl⟩ ?_
    rintro k u w3 ⟨o, r, vr, h8, h7, hr, hko, hol, hod, hz, hv, hg3, hvr, k3⟩
    refine wp_learn 8 h8 (wp_learn 7 h7 ?_)
    clear h8 h7 hg
    have hb3 : NatV (fun k => S k ∧ k ≠ q) 127 .u32 w3 vb b := hb2.keep (k3.mono fun i hi => hi.2)
    have ha3 : NatV (fun k => S k ∧ k ≠ q) 127 .u32 w3 va a := ha2.keep (k3.mono fun i hi => hi.2)
    have hS3 : Up (fun k => S k ∧ k ≠ q) w3 := fun i hi => hS2 i (by have := k3.size; omega)
    repeat (first | refine wp_seq_region ?_ | refine wp_seq_seq ?_ | refine wp_region ?_ | refine r_move (by conv => (lhs; whnf)) ?_ | refine r_nil ?_ | refine q_then ?_ | refine r_geq rfl rfl ?_)
    try refine wp_seq_cond ?_
    refine wp_cond_dec rfl ?_ ?_ <;> intro hk
    · obtain ⟨m, rfl⟩ : ∃ m, k = m + 1 := ⟨k - 1, by omega⟩
      repeat (first | refine r_index1 (i := m) (by conv => (lhs; whnf)) rfl (by omega) ha3 (by omega) ?_ | refine r_load_dig rfl ha3 (by omega) ?_ | refine wp_seq_region ?_ | refine wp_seq_bseq ?_ | refine wp_region ?_ | refine r_move (by conv => (lhs; whnf)) ?_ | refine wp_block_seq ?_ | refine wp_skip ?_)
      have hda := dg_lt a m
      have hdr := drop_step (show m < (dg a).length by omega)
      rw [hv] at hdr
      obtain ⟨d, hd⟩ : ∃ d, d = (dg a).getD m 0 := ⟨_, rfl⟩
      rw [← hd] at hda hdr ⊢
      have hdo := drop_step (show m < o.length by omega)
      have hdl := dl_lt_mul hr hda
      have hrb := dl_mono (Nat.le_of_lt hr)
      refine r_call (shifted_c hS3 hvr (by omega) hda) rfl ?_
      rintro v4 w4 ⟨k4, h4⟩
      repeat (first | refine wp_seq_region ?_ | refine wp_seq_seq ?_ | refine wp_region ?_ | refine r_move (by conv => (lhs; whnf)) ?_ | refine r_assign (by conv => (lhs; whnf)) ?_ | refine r_nil ?_)
      refine r_call (compare_c h4 (hb3.to k4)) rfl ?_
      rintro v5 w5 ⟨k5, c5, rfl, hc5⟩
      replace h4 := h4.to k5
      replace k4 := k4.trans k5
      repeat (first | refine r_nil ?_ | refine q_then ?_ | refine r_lss rfl rfl ?_)
      try refine wp_seq_cond ?_
      refine wp_cond_dec rfl ?_ ?_ <;> intro hlt
      · repeat (first | refine wp_region ?_ | refine r_move (by conv => (lhs; whnf)) ?_ | refine r_assign (by conv => (lhs; whnf)) ?_ | refine r_nil ?_ | refine q_then ?_ | refine wp_exit ?_ | refine r_subI rfl rfl (by omega) (by omega) ?_)
        refine ⟨by (repeat (first | refine agree_upd rfl ?_ | exact agree_over | refine agree_sub rfl ?_ | exact agree_refl)), m, by omega, o, d + 1000000000 * r, v4, congrArg (Value.int .i64) (by omega), rfl, hc5.1.1 hlt, by omega, hol, hod, fun j hj => hz j (by omega), ?_, hg3.to k4, h4, k3.trans (.of k4)⟩
        rw [hdr, hdo, hz m (by omega), Nat.zero_add, Nat.mul_add, Nat.mul_assoc]
        omega
      · have hge : b ≤ d + 1000000000 * r := by have := hc5.1; omega
        have hlt9 : d + 1000000000 * r < 1000000000 * b := by omega
        obtain ⟨y, hy⟩ : ∃ y, y = d + 1000000000 * r := ⟨_, rfl⟩
        rw [← hy] at hge hlt9 h4 hdl
        repeat (first | refine wp_seq_region ?_ | refine wp_region ?_ | refine r_move (by conv => (lhs; whnf)) ?_ | refine wp_skip ?_ | refine r_len (by conv => (lhs; whnf)) (by assumption) ?_ | refine r_addI rfl rfl (by omega) (by omega) ?_)
        refine r_call (lead_c (n := (dg b).length + 1) h4 (by omega)) (args2 rfl (congrArg (Value.int .i64) (by omega))) ?_
        rintro v6 w6 ⟨⟨f6, rfl⟩, k6⟩
        repeat (first | refine r_move (by conv => (lhs; whnf)) ?_ | refine r_len (by conv => (lhs; whnf)) (by assumption) ?_ | refine r_addI rfl rfl (by omega) (by omega) ?_)
        refine r_call (lead_c (n := (dg b).length + 1) (hb3.to (k4.trans k6)) (by omega)) (args2 rfl (congrArg (Value.int .i64) (by omega))) ?_
        rintro v7 w7 ⟨⟨f7, rfl⟩, k7⟩
        skip
        refine r_float rfl rfl (by simp) ?_
        intro f8 w8 k8
        skip
        refine r_fmin rfl rfl ?_
        intro f9 w9 k9
        skip
        refine r_fmax rfl rfl ?_
        intro f10 w10 k10
        skip
        refine r_tou32 rfl ?_
        intro g w11 hg11 k11
        repeat (first | refine wp_seq_region ?_ | refine wp_region ?_ | refine r_move (by conv => (lhs; whnf)) ?_ | refine r_assign (by conv => (lhs; whnf)) ?_ | refine r_nil ?_)
        have k4b := (((((k4.trans k6).trans k7).trans k8).trans k9).trans k10).trans k11
        replace h4 := h4.to (((((k6.trans k7).trans k8).trans k9).trans k10).trans k11)
        refine r_call (small_c (c := g) (hS3.to k4b) (hb3.to k4b) (by omega) hg11) rfl ?_
        rintro v12 w12 ⟨k12b, h12⟩
        replace h4 := h4.to k12b
        replace k4b := k4b.trans k12b
        repeat (first | refine r_assign (by conv => (lhs; whnf)) ?_ | refine r_nil ?_ | refine q_then ?_)
        try refine wp_seq_block ?_
        refine wp_for [(9, 10), (53, 61)] (fun k ρ w' => ∃ vp : Value, ρ 9 = .int .u32 k ∧ ρ 10 = vp ∧ k ≤ 4294967295 ∧ NatV (fun k => S k ∧ k ≠ q) 127 .u32 w' vp (b * k) ∧ Ext w12 w') g
          ⟨v12, rfl, rfl, hg11, h12, .refl⟩ ?_
        rintro g2 u2 w13 ⟨vp, h9, h10, hg2, hp, k13⟩
        refine wp_learn 9 h9 (wp_learn 10 h10 ?_)
        clear h9 h10 h12
        have h4b := h4.to k13
        repeat (first | refine wp_seq_region ?_ | refine wp_seq_seq ?_ | refine wp_region ?_ | refine r_move (by conv => (lhs; whnf)) ?_)
        refine r_call (compare_c hp h4b) rfl ?_
        rintro v14 w14 ⟨k14, c14, rfl, hc14⟩
        repeat (first | refine r_nil ?_ | refine q_then ?_ | refine r_gtr rfl rfl ?_)
        try refine wp_seq_cond ?_
        refine wp_cond_dec rfl ?_ ?_ <;> intro hgt
        · have hgt2 := hc14.2.1 hgt
          obtain ⟨g3, rfl⟩ : ∃ g3, g2 = g3 + 1 := by
            have h0 : g2 ≠ 0 := by
              rintro rfl
              omega
            exact ⟨g2 - 1, by omega⟩
          repeat (first | refine r_subW rfl rfl (by omega) (by omega) ?_ | refine wp_seq_region ?_ | refine wp_region ?_ | refine r_move (by conv => (lhs; whnf)) ?_ | refine r_assign (by conv => (lhs; whnf)) ?_ | refine r_nil ?_ | refine q_then ?_ | refine wp_block_seq ?_ | refine wp_skip ?_)
          have hbl : b ≤ b * (g3 + 1) := Nat.le_mul_of_pos_right _ (by omega)
          have hdm := dl_mul32 (b := b) hg2
          refine r_call (less_c ((hS3.to k4b).to (k13.trans k14)) (hp.to k14) (hb3.to (k4b.trans (k13.trans k14))) (by omega) hbl) rfl ?_
          rintro v15 w15 ⟨k15, h15⟩
          repeat (first | refine r_assign (by conv => (lhs; whnf)) ?_ | refine r_nil ?_ | refine q_then ?_ | refine q_block ?_)
          refine ⟨by (repeat (first | refine agree_upd rfl ?_ | exact agree_over | refine agree_sub rfl ?_ | exact agree_refl)), g3, by omega, v15, congrArg (Value.int .u32) (by omega), rfl, by omega, ?_, (k13.trans k14).trans k15⟩
          have e : b * (g3 + 1) - b = b * g3 := by rw [Nat.mul_succ]; omega
          rw [← e]; exact h15
        · have hle : b * g2 ≤ y := by have := hc14.2; omega
          repeat (first | refine wp_seq_region ?_ | refine wp_region ?_ | refine r_move (by conv => (lhs; whnf)) ?_ | refine wp_exit ?_)
          refine r_call (less_c ((hS3.to k4b).to (k13.trans k14)) (h4b.to k14) (hp.to k14) (by omega) hle) rfl ?_
          rintro v15 w15 ⟨k15, h15⟩
          have k4c := ((k4b.trans k13).trans k14).trans k15
          repeat (first | refine r_assign (by conv => (lhs; whnf)) ?_ | refine r_nil ?_ | refine q_then ?_)
          try refine wp_seq_block ?_
          refine wp_for [(7, 7), (9, 9), (65, 73)] (fun k ρ w' => ∃ (g : Nat) (vp : Value), ρ 9 = .int .u32 g ∧ ρ 7 = vp ∧ y = b * g + k ∧ NatV (fun k => S k ∧ k ≠ q) 127 .u32 w' vp k ∧ Ext w15 w') (y - b * g2)
            ⟨g2, v15, rfl, rfl, by omega, h15, .refl⟩ ?_
          rintro r3 u3 w16 ⟨g4, vp4, h9, h7, hyr, hr3, k16⟩
          refine wp_learn 9 h9 (wp_learn 7 h7 ?_)
          clear h9 h7 h15
          have k4d := k4c.trans k16
          have hr3d : dl r3 ≤ dl b + 1 := Nat.le_trans (dl_mono (by omega)) hdl
          repeat (first | refine wp_seq_region ?_ | refine wp_seq_seq ?_ | refine wp_region ?_ | refine r_move (by conv => (lhs; whnf)) ?_)
          refine r_call (compare_c hr3 (hb3.to k4d)) rfl ?_
          rintro v17 w17 ⟨k17, c17, rfl, hc17⟩
          have hg9 : b * g4 < b * 1000000000 := by omega
          replace hg9 := Nat.lt_of_mul_lt_mul_left hg9
          repeat (first | refine r_nil ?_ | refine q_then ?_ | refine r_geq rfl rfl ?_)
          try refine wp_seq_cond ?_
          refine wp_cond_dec rfl ?_ ?_ <;> intro hge2
          · have hge3 : b ≤ r3 := by have := hc17.1; omega
            repeat (first | refine r_addW rfl rfl (by omega) (by omega) ?_ | refine wp_seq_region ?_ | refine wp_region ?_ | refine r_move (by conv => (lhs; whnf)) ?_ | refine r_assign (by conv => (lhs; whnf)) ?_ | refine r_nil ?_ | refine q_then ?_ | refine wp_block_seq ?_ | refine wp_skip ?_)
            refine r_call (less_c ((hS3.to k4d).to k17) (hr3.to k17) (hb3.to (k4d.trans k17)) (by omega) hge3) rfl ?_
            rintro v18 w18 ⟨k18, h18⟩
            repeat (first | refine r_assign (by conv => (lhs; whnf)) ?_ | refine r_nil ?_ | refine q_then ?_ | refine q_block ?_)
            refine ⟨by (repeat (first | refine agree_upd rfl ?_ | exact agree_over | refine agree_sub rfl ?_ | exact agree_refl)), r3 - b, by omega, g4 + 1, v18, rfl, rfl, by rw [Nat.mul_succ]; omega, h18, (k16.trans k17).trans k18⟩
          · have hlt3 : r3 < b := by have := hc17.1; omega
            replace k4d := k4d.trans k17
            repeat (first | refine r_index_own (i := m) rfl rfl (by omega) (by omega) ?_ | refine wp_region ?_ | refine r_move (by conv => (lhs; whnf)) ?_ | refine wp_exit ?_)
            refine r_store_digs (c := g4) rfl rfl rfl (hg3.to k4d) (by omega) ?_
            intro w19 k19 hg19
            repeat (first | refine wp_region ?_ | refine r_move (by conv => (lhs; whnf)) ?_ | refine r_assign (by conv => (lhs; whnf)) ?_ | refine r_nil ?_ | refine q_then ?_ | refine r_subI rfl rfl (by omega) (by omega) ?_)
            refine ⟨by (repeat (first | refine agree_upd rfl ?_ | exact agree_over | refine agree_sub rfl ?_ | exact agree_refl)), m, by omega, o.set m g4, r3, vp4, congrArg (Value.int .i64) (by omega), rfl, hlt3, by rw [List.length_set]; omega, by rw [List.length_set]; omega, hod.set hg9 _, fun j hj => by rw [getD_set_other (by omega)]; exact hz j (by omega), ?_, hg19, (hr3.to k17).keep (k19.mono fun i hi => hi.2), (k3.trans (.of k4d)).trans k19⟩
            have hds := drop_step (l := o.set m g4) (m := m) (by rw [List.length_set]; omega)
            rw [getD_set_self (by omega), drop_set_lt] at hds
            rw [hdr, hds, Nat.mul_add, Nat.add_mul, Nat.mul_assoc, Nat.mul_comm g4]
            omega
    · obtain rfl : k = 0 := by omega
      rw [List.drop_zero, List.drop_zero, nval_dg] at hv
      repeat (first | refine wp_seq_region ?_ | refine wp_region ?_ | refine r_move (by conv => (lhs; whnf)) ?_ | refine wp_exit ?_)
      refine r_call (trim_c (S := S) (v := .slice (some ⟨q, 0, none⟩) (dg a).length (dg a).length) (l := o) ?_ hod) rfl ?_
      · have h4 := Row.of_blk (S := S) (s := 1) (n := o.length) (cap := o.length) hg3 (hS q (by omega)) (Nat.le_refl _) (by unfold maxLen; omega) (by simp)
        rw [Nat.mul_one, List.take_of_length_le (by simp)] at h4
        rw [← hol]
        exact h4
      · rintro v4 w4 ⟨rfl, h4⟩
        have hdiv : a / b = nval o := by
          rw [hv, Nat.add_comm, Nat.add_mul_div_right _ _ hb0, Nat.div_eq_of_lt hr, Nat.zero_add]
        have hmod : a % b = r := by
          rw [hv, Nat.mul_comm, Nat.mul_add_mod, Nat.mod_eq_of_lt hr]
        repeat (first | refine r_move (by conv => (lhs; whnf)) ?_ | refine r_assign (by conv => (lhs; whnf)) ?_ | refine r_nil ?_ | refine q_then ?_ | refine wp_ret ?_)
        refine end_tmp2 rfl (by conv => (lhs; whnf)) (by conv => (lhs; whnf)) ⟨_, _, rfl, ?_, ?_, ?_⟩
        · exact Keeps.later k12 k3 fun i hi _ => by omega
        · rw [hdiv]; exact h4
        · rw [hmod]; exact hvr.mono fun i _ hi => hi.1
end Go.Proofs.YtpmnjjmngogkkaaGreatDoor
end

section
set_option linter.unusedVariables false
namespace Go.Proofs.YtpmnjjmngogkkaaGreatDoor
open Go Go.RowKit
theorem gcd_c {S : Nat → Prop} {w : World} {va vb : Value} {a b : Nat} (hS : Up S w) (ha : NatV S 127 .u32 w va a) (hb : NatV S 127 .u32 w vb b) (hla : dl a ≤ 1099511627000) (hlb : dl b ≤ 1099511627000) :
    Gives Tryz.prog 99 [va, vb] w fun v' w' => Ext w w' ∧ NatV S 127 .u32 w' v' (Nat.gcd a b) := by
  refine gives_of Tryz.func99 rfl rfl rfl ?_
  repeat (first | refine wp_seq_region ?_ | refine wp_region ?_ | refine r_assign (by conv => (lhs; whnf)) ?_ | refine r_nil ?_ | refine q_then ?_)
  try refine wp_seq_block ?_
  refine wp_for [(0, 1), (5, 17)] (fun k ρ w' => ∃ (x : Nat) (vx vy : Value), ρ 0 = vx ∧ ρ 1 = vy ∧ NatV S 127 .u32 w' vx x ∧ NatV S 127 .u32 w' vy k ∧ Nat.gcd x k = Nat.gcd a b ∧ dl x ≤ 1099511627000 ∧ dl k ≤ 1099511627000 ∧ Ext w w') b
    ⟨a, va, vb, rfl, rfl, ha, hb, rfl, hla, hlb, .refl⟩ ?_
  rintro y u w2 ⟨x, vx, vy, h0, h1, hx, hy, hg, hlx, hly, k2⟩
  refine wp_learn 0 h0 (wp_learn 1 h1 ?_)
  clear h0 h1
  repeat (first | refine wp_seq_region ?_ | refine wp_seq_seq ?_ | refine wp_region ?_ | refine r_move (by conv => (lhs; whnf)) ?_ | refine r_nil ?_ | refine q_then ?_ | refine r_len (by conv => (lhs; whnf)) (by assumption) ?_ | refine r_gtr rfl rfl ?_)
  try refine wp_seq_cond ?_
  refine wp_cond_dec rfl ?_ ?_ <;> intro hc
  · have hy0 : 0 < y := by
      rcases Nat.eq_zero_or_pos y with rfl | h
      · rw [dg_zero] at hc; simp at hc
      · exact h
    repeat (first | refine wp_seq_region ?_ | refine wp_region ?_ | refine r_move (by conv => (lhs; whnf)) ?_ | refine q_then ?_ | refine wp_block_seq ?_ | refine wp_skip ?_)
    refine r_call (over_c (hS.to k2) hx hy hlx hly hy0) rfl ?_
    rintro v3 w3 ⟨vq, vr, rfl, k3, hq, hr⟩
    have hml := dl_mono (Nat.le_of_lt (Nat.mod_lt x hy0))
    repeat (first | refine wp_region ?_ | refine r_move (by conv => (lhs; whnf)) ?_ | refine r_assign (by conv => (lhs; whnf)) ?_ | refine r_nil ?_ | refine q_then ?_ | refine q_block ?_ | refine r_extract rfl rfl ?_)
    refine ⟨by (repeat (first | refine agree_upd rfl ?_ | exact agree_over | refine agree_sub rfl ?_ | exact agree_refl)), x % y, Nat.mod_lt x hy0, y, vy, vr, rfl, rfl, hy.to k3, hr, ?_, hly, by omega, k2.trans k3⟩
    rw [Nat.gcd_comm, ← Nat.gcd_rec, Nat.gcd_comm, hg]
  · obtain rfl : y = 0 := dl_eq_zero.1 (by unfold dl; omega)
    rw [Nat.gcd_zero_right] at hg
    rw [← hg]
    repeat (first | refine wp_seq_region ?_ | refine wp_region ?_ | refine r_move (by conv => (lhs; whnf)) ?_ | refine r_assign (by conv => (lhs; whnf)) ?_ | refine r_nil ?_ | refine q_then ?_ | refine wp_ret ?_ | refine wp_exit ?_)
    exact end_tmp rfl (by conv => (lhs; whnf)) ⟨k2, hx⟩
@[irreducible] def Big : Nat := 2 ^ 100000
theorem big_def : Big = 2 ^ 100000 := by unfold Big; rfl
theorem big_low : 1000000000 ^ 3344 ≤ Big := by
  unfold Big
  exact Nat.le_of_ble_eq_true (by kernel_rfl)
theorem big_high : Big < 1000000000 ^ 3345 := by
  unfold Big
  exact Nat.le_of_ble_eq_true (by kernel_rfl)
/-- What is left of a power: p times s^k is 2^100000. -/
@[irreducible] def LeftB (p s k : Nat) : Prop := ∃ e, e = 100000 ∧ p * s ^ k = 2 ^ e
theorem leftB_gen (k : Nat) : ∃ e, e = k ∧ 1 * 2 ^ k = 2 ^ e := ⟨k, rfl, Nat.one_mul _⟩
theorem leftB_start : LeftB 1 2 100000 := by unfold LeftB; exact leftB_gen 100000
theorem big_of {p s k : Nat} (h : LeftB p s k) : p * s ^ k = Big := by
  unfold LeftB at h
  obtain ⟨e, rfl, h⟩ := h
  exact h.trans big_def.symm
theorem leftB_of {p s k : Nat} (h : p * s ^ k = Big) : LeftB p s k := by
  unfold LeftB
  exact ⟨100000, rfl, h.trans big_def⟩
theorem big_gt {x : Nat} (h : 1000000000 ^ x ≤ Big) : 0 < Big := Nat.lt_of_lt_of_le (Nat.pow_pos (by decide)) h
theorem big_gt0 : 0 < Big := @big_gt 3344 big_low
theorem pow_mono_b {i j : Nat} (h : i ≤ j) : 1000000000 ^ i ≤ 1000000000 ^ j := Nat.pow_le_pow_right (by decide) h
theorem big_half (p s k : Nat) : p * s ^ k = (if k % 2 = 1 then p * s else p) * (s * s) ^ (k / 2) := by
  conv => lhs; rw [← Nat.div_add_mod k 2, Nat.pow_add, Nat.pow_mul]
  split
  · rename_i h; rw [h, Nat.pow_one, Nat.pow_two, Nat.mul_comm ((s * s) ^ (k / 2)) s, ← Nat.mul_assoc]
  · rename_i h
    have h : k % 2 = 0 := by omega
    rw [h, Nat.pow_zero, Nat.mul_one, Nat.pow_two]
theorem isSmall_c {S : Nat → Prop} {w : World} {va : Value} {a : Nat} (hS : Up S w) (ha : NatV S 127 .u32 w va a) :
    Gives Tryz.prog 146 [va] w fun v' w' => v' = .bool (tst (a < Big)) ∧ Ext w w' := by
  refine gives_of Tryz.func146 rfl rfl rfl ?_
  repeat (first | refine wp_seq_region ?_ | refine wp_seq_seq ?_ | refine wp_region ?_ | refine r_move (by conv => (lhs; whnf)) ?_ | refine r_assign (by conv => (lhs; whnf)) ?_ | refine r_nil ?_ | refine q_then ?_ | refine r_len (by conv => (lhs; whnf)) (by assumption) ?_ | refine r_neq rfl rfl ?_)
  try refine wp_seq_cond ?_
  refine wp_cond_dec rfl ?_ ?_ <;> intro hc
  · repeat (first | refine wp_seq_region ?_ | refine wp_region ?_ | refine r_move (by conv => (lhs; whnf)) ?_ | refine r_assign (by conv => (lhs; whnf)) ?_ | refine r_nil ?_ | refine q_then ?_ | refine wp_ret ?_ | refine q_then_ret ?_ | refine r_len (by conv => (lhs; whnf)) (by assumption) ?_ | refine r_lss rfl rfl ?_)
    refine end_tmp rfl (by conv => (lhs; whnf)) ⟨congrArg Value.bool ?_, .refl⟩
    by_cases h : (dg a).length < 3345
    · have h2 : dl a ≤ 3344 := by unfold dl; omega
      have h4 : a < Big := Nat.lt_of_lt_of_le (lt_pow_dl a) (Nat.le_trans (pow_mono_b h2) big_low)
      rw [tst_true (by omega), tst_true h4]
    · have h1 := pow_le_of_canon (canon_dg a) (by rintro h0; rw [h0] at h; exact h (by decide))
      rw [nval_dg] at h1
      have h2 : 3345 ≤ (dg a).length - 1 := by omega
      have h4 : ¬ a < Big := Nat.not_lt.2 (Nat.le_of_lt (Nat.lt_of_lt_of_le big_high (Nat.le_trans (@pow_mono_b 3345 ((dg a).length - 1) h2) h1)))
      rw [tst_false (by omega), tst_false h4]
  · repeat (first | refine wp_seq_region ?_ | refine wp_region ?_ | refine wp_skip ?_)
    refine r_call (one_c (S := S) hS) rfl ?_
    rintro v1 w1 ⟨k1, h1⟩
    skip
    refine r_lit1 (by conv => (lhs; whnf)) rfl ?_
    intro w2 g k2 hb hg
    have h2 : NatV S 127 .u32 w2 (.slice (some ⟨g, 0, none⟩) 1 1) 2 := Row.of_blk (s := 1) (n := 1) (cap := 1) hb (hS g (by have := k1.size; omega)) (Nat.le_refl _) (by unfold maxLen; omega) rfl
    repeat (first | refine wp_seq_region ?_ | refine wp_seq_seq ?_ | refine wp_region ?_ | refine r_assign (by conv => (lhs; whnf)) ?_ | refine r_nil ?_ | refine q_then ?_)
    have hbd : dl Big ≤ 3345 := dl_le big_high
    try refine wp_seq_block ?_
    refine wp_for [(4, 6), (17, 29)] (fun k ρ w' => ∃ (p s : Nat) (vp vs : Value), ρ 6 = .int .i64 k ∧ ρ 4 = vp ∧ ρ 5 = vs ∧ k ≤ 100000 ∧ LeftB p s k ∧ 0 < s ∧ NatV S 127 .u32 w' vp p ∧ NatV S 127 .u32 w' vs s ∧ Ext w w') 100000 ?_ ?_
    · exact ⟨1, 2, v1, .slice (some ⟨g, 0, none⟩) 1 1, rfl, rfl, rfl, Nat.le_refl _, leftB_start, by decide, h1.to k2, h2, k1.trans k2⟩
    rintro k u w3 ⟨p, s, vp, vs, h6, h4, h5, hk, he, hs0, hp, hs, k3⟩
    refine wp_learn 6 h6 (wp_learn 4 h4 (wp_learn 5 h5 ?_))
    clear h6 h4 h5 h1 h2
    replace he := big_of he
    have hB0 := big_gt0
    have hpB : p ≤ Big := by rw [← he]; exact Nat.le_mul_of_pos_right _ (Nat.pow_pos hs0)
    have hpl := dl_mono hpB
    repeat (first | refine wp_seq_region ?_ | refine wp_seq_seq ?_ | refine wp_region ?_ | refine r_move (by conv => (lhs; whnf)) ?_ | refine r_nil ?_ | refine q_then ?_ | refine r_gtr rfl rfl ?_)
    try refine wp_seq_cond ?_
    refine wp_cond_dec rfl ?_ ?_ <;> intro hk0
    · have hsB : s ≤ Big := by
        have h1 : 0 < p := by
          rcases Nat.eq_zero_or_pos p with rfl | h
          · rw [Nat.zero_mul] at he; omega
          · exact h
        rw [← he]
        exact Nat.le_trans (Nat.le_self_pow (by omega) s) (Nat.le_mul_of_pos_left _ h1)
      have hsl := dl_mono hsB
      have hh := big_half p s k
      rw [he] at hh
      repeat (first | refine wp_seq_region ?_ | refine wp_seq_seq ?_ | refine wp_seq_bseq ?_ | refine wp_region ?_ | refine r_move (by conv => (lhs; whnf)) ?_ | refine r_nil ?_ | refine q_then ?_ | refine wp_block_seq ?_ | refine wp_skip ?_ | refine r_eql rfl rfl ?_ | refine r_remP rfl rfl (by omega) (by omega) ?_)
      first | refine wp_seq_cond ?_ | refine wp_thenB ?_ | refine wp_thenBB ?_ | skip
      refine wp_join [(4, 4), (24, 26)] (fun ρ w' => ∃ vp', ρ 4 = vp' ∧ NatV S 127 .u32 w' vp' (if k % 2 = 1 then p * s else p) ∧ Ext w3 w') rfl ?_ ?_ ?_
      · intro h2
        repeat (first | refine wp_region ?_ | refine r_move (by conv => (lhs; whnf)) ?_)
        refine r_call (times_c (hS.to k3) hp hs (by omega) (by omega)) rfl ?_
        rintro v4 w4 ⟨k4, h4⟩
        repeat (first | refine r_assign (by conv => (lhs; whnf)) ?_ | refine r_nil ?_ | refine q_then ?_)
        exact ⟨by (repeat (first | refine agree_upd rfl ?_ | exact agree_over | refine agree_sub rfl ?_ | exact agree_refl)), v4, rfl, by rw [if_pos (by omega)]; exact h4, k4⟩
      · intro h2
        repeat (first | refine q_then ?_ | refine wp_skip ?_)
        exact ⟨by (repeat (first | refine agree_upd rfl ?_ | exact agree_over | refine agree_sub rfl ?_ | exact agree_refl)), vp, rfl, by rw [if_neg (by omega)]; exact hp, .refl⟩
      · rintro u4 w4 ⟨vp', h4, hp', k4⟩
        refine wp_learn 4 h4 ?_
        clear h4
        repeat (first | refine wp_region ?_ | refine r_move (by conv => (lhs; whnf)) ?_)
        refine r_call (times_c (hS.to (k3.trans k4)) (hs.to k4) (hs.to k4) (by omega) (by omega)) rfl ?_
        rintro v5 w5 ⟨k5, h5⟩
        repeat (first | refine wp_region ?_ | refine r_move (by conv => (lhs; whnf)) ?_ | refine r_assign (by conv => (lhs; whnf)) ?_ | refine r_nil ?_ | refine q_then ?_ | refine r_quoI rfl rfl (by omega) (by omega) (by omega) ?_)
        exact ⟨by (repeat (first | refine agree_upd rfl ?_ | exact agree_over | refine agree_sub rfl ?_ | exact agree_refl)), k / 2, by omega, _, _, vp', v5, congrArg (Value.int .i64) (by omega), rfl, rfl, by omega, leftB_of hh.symm, Nat.mul_pos hs0 hs0, hp'.to k5, h5, (k3.trans k4).trans k5⟩
    · obtain rfl : k = 0 := by omega
      obtain rfl : p = Big := by rw [← he, Nat.pow_zero, Nat.mul_one]
      repeat (first | refine wp_seq_region ?_ | refine wp_region ?_ | refine r_move (by conv => (lhs; whnf)) ?_ | refine wp_exit ?_)
      refine r_call (compare_c (ha.to k3) hp) rfl ?_
      rintro v4 w4 ⟨k4, c, rfl, hc4⟩
      repeat (first | refine r_assign (by conv => (lhs; whnf)) ?_ | refine r_nil ?_ | refine q_then ?_ | refine wp_ret ?_ | refine r_lss rfl rfl ?_)
      refine end_tmp rfl (by conv => (lhs; whnf)) ⟨congrArg Value.bool ?_, k3.trans k4⟩
      by_cases h : a < Big
      · rw [tst_true h, tst_true (hc4.1.2 h)]
      · rw [tst_false h, tst_false fun h' => h (hc4.1.1 h')]
end Go.Proofs.YtpmnjjmngogkkaaGreatDoor
end

section
set_option linter.unusedVariables false
namespace Go.Proofs.YtpmnjjmngogkkaaGreatDoor
open Go Go.RowKit
theorem tst_congr {p q : Prop} (h : p ↔ q) : tst p = tst q := by rw [propext h]
/-- v is the integer z. -/
def IntV (S : Nat → Prop) (T : TypeId) (k : IntKind) (w : World) (v : Value) (z : Int) : Prop := ∃ m, v = .agg #[.bool (tst (z < 0)), m] ∧ NatV S T k w m z.natAbs
theorem IntV.keep {S : Nat → Prop} {T : TypeId} {kd : IntKind} {w w' : World} {v : Value} {z : Int} (h : IntV S T kd w v z) (k : Keeps S w w') : IntV S T kd w' v z := let ⟨m, h1, h2⟩ := h; ⟨m, h1, h2.keep k⟩
theorem IntV.to {S : Nat → Prop} {T : TypeId} {kd : IntKind} {w w' : World} {v : Value} {z : Int} (h : IntV S T kd w v z) (k : Ext w w') : IntV S T kd w' v z := let ⟨m, h1, h2⟩ := h; ⟨m, h1, h2.to k⟩
theorem IntV.mono {S S' : Nat → Prop} {T : TypeId} {kd : IntKind} {w : World} {v : Value} {z : Int} (h : IntV S T kd w v z) (hs : ∀ k, k < w.heap.size → S k → S' k) : IntV S' T kd w v z := let ⟨m, h1, h2⟩ := h; ⟨m, h1, h2.mono hs⟩
theorem ones2 {a b : Value} (h1 : a.oneCell' = true) (h2 : b.oneCell' = true) : ∀ v ∈ [a, b], v.oneCell' = true := fun v hv => by
  simp only [List.mem_cons, List.not_mem_nil, or_false] at hv
  rcases hv with rfl | rfl <;> assumption
/-- What lay before stays when a new block is written. -/
theorem Row.past {S : Nat → Prop} {T : TypeId} {s : Nat} {w w1 w2 : World} {v : Value} {n g : Nat} {cs : List Value} (h : Row S T s w v n cs) (k1 : Ext w w1) (k2 : Wrt g w1 w2) (hg : w.heap.size ≤ g) : Row S T s w2 v n cs :=
  (((h.mono (S' := fun k => S k ∧ k ≠ g) fun i hi hs => ⟨hs, by omega⟩).to k1).keep (k2.mono fun i hi => hi.2)).mono fun i _ hi => hi.1
theorem Ext.past {w w1 w2 : World} {g : Nat} (k1 : Ext w w1) (k2 : Wrt g w1 w2) (hg : w.heap.size ≤ g) : Ext w w2 := Keeps.later k1 k2 fun i hi _ => by omega
theorem Keeps.past {w w1 w2 : World} {g : Nat} (k1 : Keeps All w w1) (k2 : Wrt g w1 w2) (hg : w.heap.size ≤ g) : Ext w w2 := Ext.past k1 k2 hg
theorem fill2 {a b z0 z1 : Value} (h1 : a.oneCell' = true) (h2 : b.oneCell' = true) :
    Instr.fill (fun i : Nat => ([(0, 1), (1, 1)][i]? : Option (Nat × Nat))) [z0, z1].toArray [(0, a), (1, b)] = some [a, b].toArray :=
  fill_one rfl h1 (by simp) (fill_one rfl h2 (by simp) fill_nil)
theorem r_build2 {P : Program} {n : Nat} {Q : Post} {ρ : Fr} {w : World} {all rest : List Oper} {d : Tmp} {ty : TypeId} {pos : String} {aft : Array Edge} {T : TypeId} {bb : Nat} {z0 z1 : Value} [ti : TyI P T 2 bb (.agg #[z0, z1]) true] [st : StcT P T [(0, 1), (1, 1)]]
    {x y : Operand} {a b : Value} (hx : ev ρ x = a) (hy : ev ρ y = b) (h1 : a.oneCell' = true) (h2 : b.oneCell' = true)
    (h : WpR P n all Q rest (upd ρ d (.agg #[a, b])) w) : WpR P n all Q (⟨some d, .build T #[(0, x), (1, y)], ty, pos, aft, none⟩ :: rest) ρ w :=
  r_build (parts := [(0, x), (1, y)]) (zs := [z0, z1]) (cs := [a, b]) (vs := [(0, a), (1, b)]) rfl (by rw [← hx, ← hy]; rfl) (fill2 h1 h2) h
theorem r_store2 {P : Program} {n : Nat} {Q : Post} {ρ : Fr} {w : World} {all rest : List Oper} {ty : TypeId} {pos : String} {aft : Array Edge} {t : TypeId} {bb : Nat} {z : Value} {agg : Bool} [ti : TyI P t 2 bb z agg] {x y : Operand} {g : Nat} {T : TypeId} {a b c d : Value}
    (hx : ev ρ x = .pointer (some ⟨g, 0, none⟩)) (hy : ev ρ y = .agg #[a, b]) (hb : Blk w g T [c, d]) (h1 : a.oneCell' = true) (h2 : b.oneCell' = true)
    (h : ∀ w', Wrt g w w' → Blk w' g T [a, b] → WpR P n all Q rest ρ w') : WpR P n all Q (⟨none, .store t x y, ty, pos, aft, none⟩ :: rest) ρ w :=
  r_store_all (us := [a, b]) hx hy rfl rfl hb rfl (ones2 h1 h2) h
theorem signed_c {S : Nat → Prop} {w : World} {vm : Value} {n : Nat} {p : Prop} (z : Int) (hm : NatV S 127 .u32 w vm n) (ha : z.natAbs = n) (hp : z < 0 ↔ p ∧ 0 < n) :
    Gives Tryz.prog 86 [.bool (tst p), vm] w fun v' w' => Ext w w' ∧ IntV S 127 .u32 w' v' z := by
  subst ha
  refine gives_of Tryz.func86 rfl rfl rfl ?_
  repeat (first | refine wp_seq_region ?_ | refine wp_region ?_)
  refine r_alloc (cs := [.bool false, .slice none 0 0]) rfl ?_
  intro w1 g k1 hg hgs
  have hm0 := hm
  replace hm := hm.to k1
  have hdl : 0 < (dg z.natAbs).length ↔ 0 < z.natAbs := by
    have := @dl_eq_zero z.natAbs
    unfold dl at this
    omega
  repeat (first | refine wp_seq_region ?_ | refine wp_region ?_ | refine r_move (by conv => (lhs; whnf)) ?_ | refine r_nil ?_)
  refine r_guard_split rfl rfl ?_ ?_ <;> intro hc
  · repeat (first | refine r_move (by conv => (lhs; whnf)) ?_ | refine r_len (by conv => (lhs; whnf)) (by assumption) ?_ | refine r_guard_run rfl rfl ?_ | refine r_pick_true rfl (by conv => (lhs; whnf)) ?_ | refine r_gtr rfl rfl ?_)
    refine r_build2 (by conv => (lhs; whnf)) (by conv => (lhs; whnf)) rfl hm.one ?_
    refine r_store2 rfl (by conv => (lhs; whnf)) hg rfl hm.one ?_
    intro w2 k2 hg2
    repeat (first | refine r_nil ?_ | refine q_then ?_ | refine wp_ret ?_)
    refine end1 rfl (resV_agg (by conv => (lhs; whnf)) hg2 rfl) ⟨?_, vm, ?_, ?_⟩
    · exact k1.past k2 hgs
    · rw [tst_congr (show (0 : Int) < ((dg z.natAbs).length : Nat) ↔ z < 0 by rw [hp, ← hdl]; exact ⟨fun h => ⟨hc, by omega⟩, fun h => by omega⟩)]
    · exact hm0.past k1 k2 hgs
  · repeat (first | refine r_move (by conv => (lhs; whnf)) ?_ | refine r_guard_skip rfl rfl rfl ?_ | refine r_pick_false rfl (by conv => (lhs; whnf)) ?_)
    refine r_build2 (by conv => (lhs; whnf)) (by conv => (lhs; whnf)) rfl hm.one ?_
    refine r_store2 rfl (by conv => (lhs; whnf)) hg rfl hm.one ?_
    intro w2 k2 hg2
    repeat (first | refine r_nil ?_ | refine q_then ?_ | refine wp_ret ?_)
    refine end1 rfl (resV_agg (by conv => (lhs; whnf)) hg2 rfl) ⟨?_, vm, ?_, ?_⟩
    · exact k1.past k2 hgs
    · rw [tst_false (show ¬ z < 0 from fun h => hc (hp.1 h).1)]
    · exact hm0.past k1 k2 hgs
end Go.Proofs.YtpmnjjmngogkkaaGreatDoor
end

section
set_option linter.unusedVariables false
namespace Go.Proofs.YtpmnjjmngogkkaaGreatDoor
open Go Go.RowKit
theorem len_pos {n : Nat} : (0 : Int) < ((dg n).length : Nat) ↔ 0 < n := by
  have := @dl_eq_zero n
  unfold dl at this
  omega
theorem sign_c {S : Nat → Prop} {w : World} {v : Value} {z : Int} (h : IntV S 127 .u32 w v z) :
    Gives Tryz.prog 36 [v] w fun v' w' => v' = .int .i64 z.sign ∧ Ext w w' := by
  obtain ⟨m, rfl, hm⟩ := h
  refine gives_of Tryz.func36 rfl rfl rfl ?_
  repeat (first | refine wp_seq_region ?_ | refine wp_region ?_)
  refine r_box (cs := [.bool (tst (z < 0)), m]) (by conv => (lhs; whnf)) rfl ?_
  intro w1 g k1 hg hgs
  replace hm := hm.to k1
  repeat (first | refine r_load_blk rfl hg rfl ?_ | refine wp_seq_region ?_ | refine wp_seq_bseq ?_ | refine wp_region ?_ | refine r_assign (by conv => (lhs; whnf)) ?_ | refine r_nil ?_ | refine q_then ?_ | refine wp_block_seq ?_ | refine r_field rfl ?_)
  try refine wp_seq_cond ?_
  refine wp_cond_dec rfl ?_ ?_ <;> intro hc
  · repeat (first | refine wp_seq_region ?_ | refine wp_region ?_ | refine r_assign (by conv => (lhs; whnf)) ?_ | refine r_nil ?_ | refine q_then ?_ | refine wp_ret ?_ | refine q_then_ret ?_ | refine q_block_ret ?_)
    exact end_tmp rfl (by conv => (lhs; whnf)) ⟨congrArg (Value.int .i64) (by rw [Int.sign_eq_neg_one_of_neg hc]), k1⟩
  · repeat (first | refine r_load_blk rfl hg rfl ?_ | refine wp_seq_region ?_ | refine wp_region ?_ | refine r_assign (by conv => (lhs; whnf)) ?_ | refine r_nil ?_ | refine q_then ?_ | refine r_len (by conv => (lhs; whnf)) (by assumption) ?_ | refine r_gtr rfl rfl ?_ | refine r_field rfl ?_)
    try refine wp_seq_cond ?_
    refine wp_cond_dec rfl ?_ ?_ <;> intro hc2
    · repeat (first | refine wp_seq_region ?_ | refine wp_region ?_ | refine r_assign (by conv => (lhs; whnf)) ?_ | refine r_nil ?_ | refine q_then ?_ | refine wp_ret ?_ | refine q_then_ret ?_ | refine q_block_ret ?_)
      exact end_tmp rfl (by conv => (lhs; whnf)) ⟨congrArg (Value.int .i64) (by rw [len_pos] at hc2; rw [Int.sign_eq_one_of_pos (by omega)]), k1⟩
    · repeat (first | refine wp_seq_region ?_ | refine wp_region ?_ | refine r_assign (by conv => (lhs; whnf)) ?_ | refine r_nil ?_ | refine q_then ?_ | refine wp_ret ?_ | refine wp_skip ?_)
      exact end_tmp rfl (by conv => (lhs; whnf)) ⟨congrArg (Value.int .i64) (by rw [len_pos] at hc2; rw [show z = 0 by omega]; rfl), k1⟩
theorem neg_c {S : Nat → Prop} {w : World} {v : Value} {z : Int} (h : IntV S 127 .u32 w v z) :
    Gives Tryz.prog 60 [v] w fun v' w' => Ext w w' ∧ IntV S 127 .u32 w' v' (-z) := by
  obtain ⟨m, rfl, hm⟩ := h
  refine gives_of Tryz.func60 rfl rfl rfl ?_
  repeat (first | refine wp_seq_region ?_ | refine wp_region ?_)
  refine r_box (cs := [.bool (tst (z < 0)), m]) (by conv => (lhs; whnf)) rfl ?_
  intro w1 g k1 hg hgs
  skip
  refine r_alloc (cs := [.bool false, .slice none 0 0]) rfl ?_
  intro w2 g2 k2 hg2 hgs2
  replace hg := hg.to k2
  have k := k1.trans k2
  have hm2 := hm.to k
  repeat (first | refine r_load_blk rfl hg rfl ?_ | refine wp_seq_region ?_ | refine wp_region ?_ | refine r_nil ?_ | refine r_notB rfl ?_ | refine r_field rfl ?_)
  refine r_call (signed_c (-z) hm2 (by omega) (by omega)) rfl ?_
  rintro v3 w3 ⟨k3, m3, rfl, h3⟩
  replace hg2 := hg2.to k3
  have hs := k1.size
  skip
  refine r_store2 rfl (by conv => (lhs; whnf)) hg2 rfl h3.one ?_
  intro w4 k4 hg4
  repeat (first | refine r_nil ?_ | refine q_then ?_ | refine wp_ret ?_)
  refine end1 rfl (resV_agg (by conv => (lhs; whnf)) hg4 rfl) ⟨(k.trans k3).past k4 (by omega), m3, rfl, h3.wrT k4 hg2 (by decide)⟩
/-- The digits of a sum come as an entry. -/
def natE (S : Nat → Prop) (T : TypeId) (k : IntKind) (n : Nat) : Ent := Ent.of (fun v w => NatV S T k w v n) fun v w w' h kk => h.to kk
def intE (S : Nat → Prop) (T : TypeId) (k : IntKind) (z : Int) : Ent := Ent.of (fun v w => IntV S T k w v z) fun v w w' h kk => h.to kk
theorem sum_sign {a b : Int} (h : ¬ (a < 0 ↔ b < 0)) (hab : b.natAbs ≤ a.natAbs) : a + b < 0 ↔ a < 0 ∧ 0 < a.natAbs - b.natAbs := by
  by_cases h1 : a < 0 <;> by_cases h2 : b < 0
  · exact absurd ⟨fun _ => h2, fun _ => h1⟩ h
  · omega
  · omega
  · exact absurd ⟨fun x => by omega, fun x => by omega⟩ h
theorem sum_abs {a b : Int} (h : ¬ (a < 0 ↔ b < 0)) (hab : b.natAbs ≤ a.natAbs) : (a + b).natAbs = a.natAbs - b.natAbs := by
  by_cases h1 : a < 0 <;> by_cases h2 : b < 0
  · exact absurd ⟨fun _ => h2, fun _ => h1⟩ h
  · omega
  · omega
  · exact absurd ⟨fun x => by omega, fun x => by omega⟩ h
theorem iplus_c {S : Nat → Prop} {w : World} {va vb : Value} {a b : Int} (hS : Up S w) (ha : IntV S 127 .u32 w va a) (hb : IntV S 127 .u32 w vb b) (hla : dl a.natAbs ≤ 1099511627000) (hlb : dl b.natAbs ≤ 1099511627000) :
    Gives Tryz.prog 90 [va, vb] w fun v' w' => Ext w w' ∧ IntV S 127 .u32 w' v' (a + b) := by
  obtain ⟨ma, rfl, ha⟩ := ha
  obtain ⟨mb, rfl, hb⟩ := hb
  refine gives_of Tryz.func90 rfl rfl rfl ?_
  repeat (first | refine wp_seq_region ?_ | refine wp_region ?_)
  refine r_box (cs := [.bool (tst (a < 0)), ma]) (by conv => (lhs; whnf)) rfl ?_
  intro w1 ga k1 hga hgsa
  skip
  refine r_box (cs := [.bool (tst (b < 0)), mb]) (by conv => (lhs; whnf)) rfl ?_
  intro w2 gb k2 hgb hgsb
  skip
  refine r_alloc (cs := [.bool false, .slice none 0 0]) rfl ?_
  intro w3 g k3 hg hgs
  replace hga := hga.to (k2.trans k3)
  replace hgb := hgb.to k3
  have k := (k1.trans k2).trans k3
  have hs := (k1.trans k2).size
  replace ha := ha.to k
  replace hb := hb.to k
  repeat (first | refine r_load_blk rfl hga rfl ?_ | refine r_load_blk rfl hgb rfl ?_ | refine wp_seq_region ?_ | refine wp_seq_seq ?_ | refine wp_region ?_ | refine r_nil ?_ | refine r_field rfl ?_)
  refine r_call (compare_c ha hb) rfl ?_
  rintro v4 w4 ⟨k4, c, rfl, hc⟩
  replace hga := hga.to k4
  replace hgb := hgb.to k4
  replace k := k.trans k4
  replace ha := ha.to k4
  replace hb := hb.to k4
  replace hg := hg.to k4
  replace hS := hS.to k
  clear k1 k2 k3 k4
  repeat (first | refine r_load_blk rfl hga rfl ?_ | refine r_load_blk rfl hgb rfl ?_ | refine wp_seq_region ?_ | refine wp_region ?_ | refine r_assign (by conv => (lhs; whnf)) ?_ | refine r_nil ?_ | refine q_then ?_ | refine wp_block_seq ?_ | refine r_eqlB rfl rfl ?_ | refine r_field rfl ?_)
  try refine wp_seq_cond ?_
  refine wp_cond_dec rfl ?_ ?_ <;> intro he
  · repeat (first | refine wp_seq_region ?_)
    refine wp_drawn 8 (by kernel_rfl) (by kernel_rfl) ?_
    apply ob_step
    · intro x w1 k1 hd
      refine r_field rfl ?_
      refine r_nil ?_
      exact ob_eq
    apply ob_step
    · intro x w1 k1 hd
      refine r_load_blk rfl (hga.to k1) rfl ?_
      refine r_nil ?_
      exact ob_eq
    apply ob_step
    · intro x w1 k1 hd
      refine r_field rfl ?_
      refine r_nil ?_
      exact ob_eq
    apply ob_step
    · intro x w1 k1 hd
      refine r_load_blk rfl (hga.to k1) rfl ?_
      refine r_nil ?_
      exact ob_eq
    apply ob_step
    · intro x w1 k1 hd
      refine r_field rfl ?_
      refine r_nil ?_
      exact ob_eq
    apply ob_step
    · intro x w1 k1 hd
      refine r_load_blk rfl (hgb.to k1) rfl ?_
      refine r_nil ?_
      exact ob_eq
    refine ob_step (e := natE S 127 .u32 (a.natAbs + b.natAbs)) ?_ ?_
    · intro x w1 k1 hd
      refine r_call (plus_c (hS.to k1) (ha.to k1) (hb.to k1) (by omega) (by omega)) rfl ?_
      rintro v2 w2 ⟨k2, h2⟩
      exact r_nil (ob_of k2 h2)
    refine ob_step (e := intE S 127 .u32 (a + b)) ?_ ?_
    · intro x w1 k1 hd
      refine r_call (signed_c (a + b) hd.1 (by omega) (by omega)) rfl ?_
      rintro v2 w2 ⟨k2, h2⟩
      exact r_nil (ob_of k2 h2)
    refine ob_nil (ob_end ?_)
    intro x w5 k5 hall
    obtain ⟨m5, hv5, h5⟩ := hall.1
    refine r_store2 rfl hv5 (hg.to k5) rfl h5.one ?_
    intro w6 k6 hg6
    repeat (first | refine r_nil ?_ | refine q_then ?_ | refine wp_ret ?_ | refine q_then_ret ?_ | refine q_block_ret ?_)
    refine end1 rfl (resV_agg (by conv => (lhs; whnf)) hg6 rfl) ⟨Keeps.past (k.trans k5) k6 (by omega), m5, rfl, h5.wrT k6 (hg.to k5) (by decide)⟩
  · repeat (first | refine wp_seq_region ?_ | refine wp_region ?_ | refine r_move (by conv => (lhs; whnf)) ?_ | refine r_assign (by conv => (lhs; whnf)) ?_ | refine r_nil ?_ | refine q_then ?_ | refine r_geq rfl rfl ?_)
    try refine wp_seq_cond ?_
    refine wp_cond_dec rfl ?_ ?_ <;> intro hcc
    · have hge : b.natAbs ≤ a.natAbs := by have := hc.1; omega
      repeat (first | refine wp_seq_region ?_)
      refine wp_drawn 8 (by kernel_rfl) (by kernel_rfl) ?_
      apply ob_step
      · intro x w1 k1 hd
        refine r_field rfl ?_
        refine r_nil ?_
        exact ob_eq
      apply ob_step
      · intro x w1 k1 hd
        refine r_load_blk rfl (hga.to k1) rfl ?_
        refine r_nil ?_
        exact ob_eq
      apply ob_step
      · intro x w1 k1 hd
        refine r_field rfl ?_
        refine r_nil ?_
        exact ob_eq
      apply ob_step
      · intro x w1 k1 hd
        refine r_load_blk rfl (hga.to k1) rfl ?_
        refine r_nil ?_
        exact ob_eq
      apply ob_step
      · intro x w1 k1 hd
        refine r_field rfl ?_
        refine r_nil ?_
        exact ob_eq
      apply ob_step
      · intro x w1 k1 hd
        refine r_load_blk rfl (hgb.to k1) rfl ?_
        refine r_nil ?_
        exact ob_eq
      refine ob_step (e := natE S 127 .u32 (a.natAbs - b.natAbs)) ?_ ?_
      · intro x w1 k1 hd
        refine r_call (less_c (hS.to k1) (ha.to k1) (hb.to k1) (by omega) hge) rfl ?_
        rintro v2 w2 ⟨k2, h2⟩
        exact r_nil (ob_of k2 h2)
      refine ob_step (e := intE S 127 .u32 (a + b)) ?_ ?_
      · intro x w1 k1 hd
        refine r_call (signed_c (a + b) hd.1 (sum_abs he hge) (sum_sign he hge)) rfl ?_
        rintro v2 w2 ⟨k2, h2⟩
        exact r_nil (ob_of k2 h2)
      refine ob_nil (ob_end ?_)
      intro x w5 k5 hall
      obtain ⟨m5, hv5, h5⟩ := hall.1
      refine r_store2 rfl hv5 (hg.to k5) rfl h5.one ?_
      intro w6 k6 hg6
      repeat (first | refine r_nil ?_ | refine q_then ?_ | refine wp_ret ?_ | refine q_then_ret ?_ | refine q_block_ret ?_)
      refine end1 rfl (resV_agg (by conv => (lhs; whnf)) hg6 rfl) ⟨Keeps.past (k.trans k5) k6 (by omega), m5, rfl, h5.wrT k6 (hg.to k5) (by decide)⟩
    · have hge : a.natAbs ≤ b.natAbs := by have := hc.1; omega
      have he2 : ¬ (b < 0 ↔ a < 0) := fun h => he h.symm
      repeat (first | refine wp_seq_region ?_ | refine wp_skip ?_)
      refine wp_drawn 8 (by kernel_rfl) (by kernel_rfl) ?_
      apply ob_step
      · intro x w1 k1 hd
        refine r_field rfl ?_
        refine r_nil ?_
        exact ob_eq
      apply ob_step
      · intro x w1 k1 hd
        refine r_load_blk rfl (hgb.to k1) rfl ?_
        refine r_nil ?_
        exact ob_eq
      apply ob_step
      · intro x w1 k1 hd
        refine r_field rfl ?_
        refine r_nil ?_
        exact ob_eq
      apply ob_step
      · intro x w1 k1 hd
        refine r_load_blk rfl (hgb.to k1) rfl ?_
        refine r_nil ?_
        exact ob_eq
      apply ob_step
      · intro x w1 k1 hd
        refine r_field rfl ?_
        refine r_nil ?_
        exact ob_eq
      apply ob_step
      · intro x w1 k1 hd
        refine r_load_blk rfl (hga.to k1) rfl ?_
        refine r_nil ?_
        exact ob_eq
      refine ob_step (e := natE S 127 .u32 (b.natAbs - a.natAbs)) ?_ ?_
      · intro x w1 k1 hd
        refine r_call (less_c (hS.to k1) (hb.to k1) (ha.to k1) (by omega) hge) rfl ?_
        rintro v2 w2 ⟨k2, h2⟩
        exact r_nil (ob_of k2 h2)
      refine ob_step (e := intE S 127 .u32 (a + b)) ?_ ?_
      · intro x w1 k1 hd
        refine r_call (signed_c (a + b) hd.1 (by rw [Int.add_comm]; exact sum_abs he2 hge) (by rw [Int.add_comm]; exact sum_sign he2 hge)) rfl ?_
        rintro v2 w2 ⟨k2, h2⟩
        exact r_nil (ob_of k2 h2)
      refine ob_nil (ob_end ?_)
      intro x w5 k5 hall
      obtain ⟨m5, hv5, h5⟩ := hall.1
      refine r_store2 rfl hv5 (hg.to k5) rfl h5.one ?_
      intro w6 k6 hg6
      repeat (first | refine r_nil ?_ | refine q_then ?_ | refine wp_ret ?_)
      refine end1 rfl (resV_agg (by conv => (lhs; whnf)) hg6 rfl) ⟨Keeps.past (k.trans k5) k6 (by omega), m5, rfl, h5.wrT k6 (hg.to k5) (by decide)⟩
end Go.Proofs.YtpmnjjmngogkkaaGreatDoor
end

section
set_option linter.unusedVariables false
namespace Go.Proofs.YtpmnjjmngogkkaaGreatDoor
open Go Go.RowKit
theorem magOf_c {S : Nat → Prop} {w : World} {m : Nat} (hS : Up S w) (hm : m ≤ 18446744073709551615) :
    Gives Tryz.prog 82 [.int .u64 m] w fun v' w' => Ext w w' ∧ NatV S 127 .u32 w' v' m := by
  have hl3 : dl m ≤ 3 := dl_le (by omega)
  refine gives_of Tryz.func82 rfl rfl rfl ?_
  repeat (first | refine wp_seq_region ?_ | refine wp_region ?_ | refine r_assign (by conv => (lhs; whnf)) ?_ | refine r_nil ?_ | refine q_then ?_)
  try refine wp_seq_block ?_
  refine wp_for ((0, 0) :: [(0, 0), (3, 13)]) (fun k ρ w' => ∃ l v, ρ 0 = .int .u64 k ∧ k ≤ m ∧ ρ 3 = v ∧ l ++ dg k = dg m ∧ Ext w w' ∧ Own w.heap.size 127 1 w' v l.length (l.map fun d : Nat => .int .u32 d)) m
    ⟨[], _, rfl, Nat.le_refl _, rfl, rfl, .refl, own_nil⟩ ?_
  rintro k u w1 ⟨l, v, h0, hk, h3, hd, k1, ho⟩
  refine wp_learn 0 h0 (wp_learn 3 h3 ?_)
  clear h0 h3
  repeat (first | refine wp_seq_region ?_ | refine wp_seq_seq ?_ | refine wp_region ?_ | refine r_move (by conv => (lhs; whnf)) ?_ | refine r_nil ?_ | refine q_then ?_ | refine r_gtr rfl rfl ?_)
  try refine wp_seq_cond ?_
  refine wp_cond_dec rfl ?_ ?_ <;> intro hc
  · have hkl := congrArg List.length hd
    rw [List.length_append] at hkl
    have hdk := dg_pos (show k ≠ 0 by omega)
    have hdl : (dg m).length = dl m := rfl
    repeat (first | refine wp_seq_bregion ?_ | refine wp_region ?_ | refine r_move (by conv => (lhs; whnf)) ?_ | refine wp_block_region ?_ | refine wp_skip ?_ | refine r_conv rfl (wrap_u32 (by omega) (by omega)) ?_ | refine r_remP rfl rfl (by omega) (by omega) ?_)
    refine r_lit1 (by conv => (lhs; whnf)) rfl ?_
    intro w2 g k2 hb hg
    refine r_append1 (by conv => (lhs; whnf)) (own_to ho k2) rfl hb (by omega) rfl (by simp [Value.oneCell']) (by unfold maxLen; omega) (by omega) (Nat.le_trans k1.size k2.size) ?_
    intro v3 w3 ho3 k3
    repeat (first | refine wp_region ?_ | refine r_move (by conv => (lhs; whnf)) ?_ | refine r_assign (by conv => (lhs; whnf)) ?_ | refine r_nil ?_ | refine q_then ?_ | refine r_quoU rfl rfl (by omega) (by omega) (by omega) ?_)
    refine ⟨by (repeat (first | refine agree_upd rfl ?_ | exact agree_over | refine agree_sub rfl ?_ | exact agree_refl)), k / 1000000000, by omega, l ++ [k % 1000000000], v3, congrArg (Value.int .u64) (by omega), by omega, rfl, ?_, ?_, ?_⟩
    · rw [← hd, hdk, List.append_assoc]; rfl
    · exact Keeps.later (k1.trans k2) k3 fun i hi _ e => by have := (ho.lt i e.symm).1; omega
    · simpa using ho3
  · repeat (first | refine wp_seq_region ?_ | refine wp_region ?_ | refine r_move (by conv => (lhs; whnf)) ?_ | refine r_assign (by conv => (lhs; whnf)) ?_ | refine r_nil ?_ | refine q_then ?_ | refine wp_ret ?_ | refine wp_exit ?_)
    refine end_tmp rfl (by conv => (lhs; whnf)) ⟨k1, ?_⟩
    obtain rfl : k = 0 := by omega
    rw [dg_zero, List.append_nil] at hd
    subst hd
    exact Row.of_own ho hS
end Go.Proofs.YtpmnjjmngogkkaaGreatDoor
end

section
set_option linter.unusedVariables false
namespace Go.Proofs.YtpmnjjmngogkkaaGreatDoor
open Go Go.RowKit
/-- Sizes of integers: no more digits than the model's arrays take, by far. -/
abbrev zl (z : Int) : Nat := dl z.natAbs
theorem zl_add (a b : Int) : zl (a + b) ≤ max (zl a) (zl b) + 1 := by
  refine Nat.le_trans (dl_mono (b := a.natAbs + b.natAbs) (by omega)) (dl_add _ _)
theorem zl_mul (a b : Int) : zl (a * b) ≤ zl a + zl b := by unfold zl; rw [Int.natAbs_mul]; exact dl_mul _ _
theorem mul_sign (a b : Int) : a * b < 0 ↔ (¬ (a < 0 ↔ b < 0)) ∧ 0 < a.natAbs * b.natAbs := by
  rcases Int.lt_trichotomy a 0 with h1 | h1 | h1 <;> rcases Int.lt_trichotomy b 0 with h2 | h2 | h2
  · have := Int.mul_pos_of_neg_of_neg h1 h2
    constructor
    · intro h; omega
    · rintro ⟨h, _⟩; exact absurd ⟨fun _ => h2, fun _ => h1⟩ h
  · subst h2; simp
  · have := Int.mul_neg_of_neg_of_pos h1 h2
    have h3 : 0 < a.natAbs * b.natAbs := Nat.mul_pos (by omega) (by omega)
    exact ⟨fun _ => ⟨fun h => by have := h.1 h1; omega, h3⟩, fun _ => this⟩
  · subst h1; simp
  · subst h1; simp
  · subst h1; simp
  · have := Int.mul_neg_of_pos_of_neg h1 h2
    have h3 : 0 < a.natAbs * b.natAbs := Nat.mul_pos (by omega) (by omega)
    exact ⟨fun _ => ⟨fun h => by have := h.2 h2; omega, h3⟩, fun _ => this⟩
  · subst h2; simp
  · have := Int.mul_pos h1 h2
    constructor
    · intro h; omega
    · rintro ⟨h, _⟩; exact absurd ⟨fun x => by omega, fun x => by omega⟩ h
theorem itimes_c {S : Nat → Prop} {w : World} {va vb : Value} {a b : Int} (hS : Up S w) (ha : IntV S 127 .u32 w va a) (hb : IntV S 127 .u32 w vb b) (hla : zl a ≤ 1099511627000) (hlb : zl b ≤ 1099511627000) :
    Gives Tryz.prog 93 [va, vb] w fun v' w' => Ext w w' ∧ IntV S 127 .u32 w' v' (a * b) := by
  obtain ⟨ma, rfl, ha⟩ := ha
  obtain ⟨mb, rfl, hb⟩ := hb
  refine gives_of Tryz.func93 rfl rfl rfl ?_
  repeat (first | refine wp_seq_region ?_ | refine wp_region ?_)
  refine r_box (cs := [.bool (tst (a < 0)), ma]) (by conv => (lhs; whnf)) rfl ?_
  intro w1 ga k1 hga hgsa
  skip
  refine r_box (cs := [.bool (tst (b < 0)), mb]) (by conv => (lhs; whnf)) rfl ?_
  intro w2 gb k2 hgb hgsb
  skip
  refine r_alloc (cs := [.bool false, .slice none 0 0]) rfl ?_
  intro w3 g k3 hg hgs
  replace hga := hga.to (k2.trans k3)
  replace hgb := hgb.to k3
  have k := (k1.trans k2).trans k3
  have hs := (k1.trans k2).size
  replace ha := ha.to k
  replace hb := hb.to k
  replace hS := hS.to k
  clear k1 k2 k3
  repeat (first | refine wp_seq_region ?_ | refine r_nil ?_)
  refine wp_drawn 11 (by kernel_rfl) (by kernel_rfl) ?_
  apply ob_step
  · intro x w1 k1 hd
    refine r_field rfl ?_
    refine r_nil ?_
    exact ob_eq
  apply ob_step
  · intro x w1 k1 hd
    refine r_load_blk rfl (hga.to k1) rfl ?_
    refine r_nil ?_
    exact ob_eq
  apply ob_step
  · intro x w1 k1 hd
    refine r_field rfl ?_
    refine r_nil ?_
    exact ob_eq
  apply ob_step
  · intro x w1 k1 hd
    refine r_load_blk rfl (hgb.to k1) rfl ?_
    refine r_nil ?_
    exact ob_eq
  apply ob_step
  · intro x w1 k1 hd
    refine r_neqB rfl rfl ?_
    refine r_nil ?_
    exact ob_eq
  apply ob_step
  · intro x w1 k1 hd
    refine r_field rfl ?_
    refine r_nil ?_
    exact ob_eq
  apply ob_step
  · intro x w1 k1 hd
    refine r_load_blk rfl (hga.to k1) rfl ?_
    refine r_nil ?_
    exact ob_eq
  apply ob_step
  · intro x w1 k1 hd
    refine r_field rfl ?_
    refine r_nil ?_
    exact ob_eq
  apply ob_step
  · intro x w1 k1 hd
    refine r_load_blk rfl (hgb.to k1) rfl ?_
    refine r_nil ?_
    exact ob_eq
  refine ob_step (e := natE S 127 .u32 (a.natAbs * b.natAbs)) ?_ ?_
  · intro x w1 k1 hd
    refine r_call (times_c (hS.to k1) (ha.to k1) (hb.to k1) (by unfold zl at hla; omega) (by unfold zl at hlb; omega)) rfl ?_
    rintro v2 w2 ⟨k2, h2⟩
    exact r_nil (ob_of k2 h2)
  refine ob_step (e := intE S 127 .u32 (a * b)) ?_ ?_
  · intro x w1 k1 hd
    refine r_call (signed_c (a * b) hd.1 (Int.natAbs_mul ..) (mul_sign a b)) rfl ?_
    rintro v2 w2 ⟨k2, h2⟩
    exact r_nil (ob_of k2 h2)
  refine ob_nil (ob_end ?_)
  intro x w5 k5 hall
  obtain ⟨m5, hv5, h5⟩ := hall.1
  refine r_store2 rfl hv5 (hg.to k5) rfl h5.one ?_
  intro w6 k6 hg6
  repeat (first | refine r_nil ?_ | refine q_then ?_ | refine wp_ret ?_)
  refine end1 rfl (resV_agg (by conv => (lhs; whnf)) hg6 rfl) ⟨Keeps.past (k.trans k5) k6 (by omega), m5, rfl, h5.wrT k6 (hg.to k5) (by decide)⟩
theorem whole_c {S : Nat → Prop} {w : World} {z : Int} (hS : Up S w) (h0 : -9223372036854775808 ≤ z) (h1 : z ≤ 9223372036854775807) :
    Gives Tryz.prog 13 [.int .i64 z] w fun v' w' => Ext w w' ∧ IntV S 127 .u32 w' v' z := by
  refine gives_of Tryz.func13 rfl rfl rfl ?_
  repeat (first | refine wp_seq_region ?_ | refine wp_region ?_)
  refine r_alloc (cs := [.bool false, .slice none 0 0]) rfl ?_
  intro w1 g k1 hg hgs
  repeat (first | refine wp_seq_region ?_ | refine wp_seq_seq ?_ | refine wp_region ?_ | refine r_move (by conv => (lhs; whnf)) ?_ | refine r_nil ?_ | refine q_then ?_ | refine r_lss rfl rfl ?_)
  try refine wp_seq_cond ?_
  refine wp_cond_dec rfl ?_ ?_ <;> intro hc
  · repeat (first | refine wp_seq_region ?_ | refine wp_region ?_ | refine r_move (by conv => (lhs; whnf)) ?_)
    refine r_conv rfl (show IntKind.u64.wrap z = z + 18446744073709551616 by simp [IntKind.wrap, IntKind.signed, IntKind.bits]; omega) ?_
    refine r_negU rfl (show IntKind.u64.wrap (-(z + 18446744073709551616)) = ((z.natAbs : Nat) : Int) by simp [IntKind.wrap, IntKind.signed, IntKind.bits]; omega) ?_
    refine r_call (magOf_c (m := z.natAbs) (hS.to k1) (by omega)) rfl ?_
    rintro v2 w2 ⟨k2, h2⟩
    refine r_build2 (by conv => (lhs; whnf)) (by conv => (lhs; whnf)) rfl h2.one ?_
    refine r_store2 rfl (by conv => (lhs; whnf)) (hg.to k2) rfl h2.one ?_
    intro w3 k3 hg3
    repeat (first | refine r_nil ?_ | refine q_then ?_ | refine wp_ret ?_ | refine q_then_ret ?_)
    refine end1 rfl (resV_agg (by conv => (lhs; whnf)) hg3 rfl) ⟨Keeps.past (k1.trans k2) k3 hgs, v2, ?_, h2.wrT k3 (hg.to k2) (by decide)⟩
    rw [tst_true hc]
  · obtain ⟨n, rfl⟩ := Int.eq_ofNat_of_zero_le (show 0 ≤ z by omega)
    repeat (first | refine wp_seq_region ?_ | refine wp_region ?_ | refine r_move (by conv => (lhs; whnf)) ?_ | refine wp_skip ?_ | refine r_conv rfl (wrap_u64 (by omega) (by omega)) ?_)
    refine r_call (magOf_c (m := n) (hS.to k1) (by omega)) rfl ?_
    rintro v2 w2 ⟨k2, h2⟩
    refine r_build2 (by conv => (lhs; whnf)) (by conv => (lhs; whnf)) rfl h2.one ?_
    refine r_store2 rfl (by conv => (lhs; whnf)) (hg.to k2) rfl h2.one ?_
    intro w3 k3 hg3
    repeat (first | refine r_nil ?_ | refine q_then ?_ | refine wp_ret ?_)
    refine end1 rfl (resV_agg (by conv => (lhs; whnf)) hg3 rfl) ⟨Keeps.past (k1.trans k2) k3 hgs, v2, ?_, h2.wrT k3 (hg.to k2) (by decide)⟩
    rw [tst_false hc]
/-- A copy of a slice of digits. -/
theorem clone_c {S : Nat → Prop} {w : World} {v : Value} {l : List Nat} (hS : Up S w) (h : Sl S 127 .u32 w v l) (hl : l.length ≤ 1099511627776) :
    Gives Tryz.prog 98 [v] w fun v' w' => Ext w w' ∧ Sl S 127 .u32 w' v' l := by
  obtain ⟨a, cap, hv, hcap⟩ := h.slice
  refine gives_of Tryz.func98 rfl rfl rfl ?_
  repeat (first | refine wp_seq_region ?_ | refine wp_seq_seq ?_ | refine wp_region ?_ | refine r_move (by conv => (lhs; whnf)) ?_ | refine r_assign (by conv => (lhs; whnf)) ?_ | refine r_nil ?_)
  refine r_eql_nil (a := a) (m := l.length) (cap := cap) (by rw [← hv]; rfl) ?_
  cases a with
  | none =>
    repeat (first | refine wp_seq_region ?_ | refine wp_region ?_ | refine r_assign (by conv => (lhs; whnf)) ?_ | refine r_nil ?_ | refine q_then ?_ | refine wp_ret ?_ | refine q_then_ret ?_ | refine wp_cond_true rfl ?_)
    have h0 : l = [] := by
      rcases h.2 with ⟨_, h2⟩ | ⟨b, off, cap', arr, fr, hv', _⟩
      · exact List.eq_nil_of_length_eq_zero h2
      · rw [hv'] at hv; cases hv
    subst h0
    exact end_tmp rfl (by conv => (lhs; whnf)) ⟨.refl, .nil⟩
  | some ad =>
    repeat (first | refine wp_seq_region ?_ | refine wp_region ?_ | refine r_nil ?_ | refine q_then ?_ | refine wp_skip ?_ | refine wp_cond_false rfl ?_)
    refine r_lit0 ?_
    intro w1 g k1 hg hgs
    repeat (first | refine r_move (by conv => (lhs; whnf)) ?_)
    have hgl := hg.lt
    refine r_append_row (base := g) (m := 0) (xs := []) (by conv => (lhs; whnf)) (own_made (cap := 0) hg (Nat.le_refl g) (by decide) rfl) (by conv => (lhs; whnf)) (h.to k1) (by decide) ones_map (by unfold maxLen; omega) (by omega) (by omega) ?_
    intro v2 w2 h2 k2
    repeat (first | refine r_assign (by conv => (lhs; whnf)) ?_ | refine r_nil ?_ | refine q_then ?_ | refine wp_ret ?_)
    refine end_tmp rfl (by conv => (lhs; whnf)) ⟨?_, ?_⟩
    · refine Keeps.later k1 k2 fun i hi _ e => ?_
      simp only [Value.ownBlock, Option.some.injEq] at e
      omega
    · have h3 := Row.of_own (S := S) h2 fun i hi => hS i (by omega)
      simpa using h3
end Go.Proofs.YtpmnjjmngogkkaaGreatDoor
end

section
set_option linter.unusedVariables false
set_option linter.unusedSimpArgs false
namespace Go.Proofs.YtpmnjjmngogkkaaGreatDoor
open Go Go.RowKit
/-- What is known of an operation's value. -/
structure EntR (R : World → World → Prop) where
  X : Option Value
  p : Value → World → Prop
  keep : ∀ v w w', p v w → R w w' → p v w'
  hX : ∀ v w Y, p v w → X = some Y → v = Y
  hY : ∀ Y w, X = some Y → p Y w
def EntR.eq {R : World → World → Prop} (Y : Value) : EntR R := ⟨some Y, fun v _ => v = Y, fun _ _ _ h _ => h, fun v w Z h hZ => by simp at hZ; rw [← hZ]; exact h, fun Z w hZ => by simp at hZ; exact hZ.symm⟩
def EntR.of {R : World → World → Prop} (p : Value → World → Prop) (h : ∀ v w w', p v w → R w w' → p v w') : EntR R := ⟨none, p, h, fun v w Y _ h => by simp at h, fun Y w h => by simp at h⟩
/-- Operations of the head that have run, the last one first. -/
abbrev AccR (R : World → World → Prop) := List (Nat × Option Tmp × EntR R)
def frAR {R : World → World → Prop} (ρ : Fr) (x : Nat → Value) : AccR R → Fr
  | [] => ρ
  | (i, d, e) :: r => updO (frAR ρ x r) d (e.X.getD (x i))
def depsAR {R : World → World → Prop} (x : Nat → Value) (w : World) (es : List Edge) : AccR R → Prop
  | [] => True
  | (i, _, e) :: r => (bif hasEdge es i then e.p (e.X.getD (x i)) w else True) ∧ depsAR x w es r
def allAR {R : World → World → Prop} (x : Nat → Value) (w : World) : AccR R → Prop
  | [] => True
  | (i, _, e) :: r => e.p (e.X.getD (x i)) w ∧ allAR x w r
/-- A slot's value, if there is a slot. -/
def vv (ρ : Fr) : Option Tmp → Value | some t => ρ t | none => undef
def obQR {R : World → World → Prop} (w : World) (d : Option Tmp) (e : EntR R) : Post := fun ex ρ' w' => ex = .normal ∧ R w w' ∧ e.p (vv ρ' d) w'
def ObsR {R : World → World → Prop} (P : Program) (n : Nat) (all : List Oper) (ρ : Fr) (w : World) (K : AccR R → Prop) : AccR R → Nat → List Oper → Prop
  | acc, _, [] => K acc
  | acc, i, o :: r => ∃ e : EntR R, (∀ x w', R w w' → depsAR x w' o.after.toList acc → WpR P n all (obQR w' o.dst e) [o] (frAR ρ x acc) w') ∧ ObsR P n all ρ w K ((i, o.dst, e) :: acc) (i + 1) r
/-- The form of the region: the head's slots are apart, each operation waits for those that it reads; the tail waits for all. -/
def headOkR : List (Nat × Option Tmp) → Nat → List Oper → Bool
  | _, _, [] => true
  | done, i, o :: r =>
    (match o.dst with | some d => done.all (fun p => p.2 != some d) | none => true) &&
    (match o.op with | .select .. => false | _ => true) &&
    o.after.toList.all (fun e => !Region.binds .any e || Nat.blt e.on i) &&
    done.all (fun p => hasEdge o.after.toList p.1 || match p.2 with | some d => !(operTmps o).contains d && (match o.guard with | some (g, _) => g != p.1 | none => true) | none => true) &&
    (match o.guard with | some (g, _) => Nat.blt g i | none => true) &&
    (r.all fun o' => match o.dst with | some d => !(operTmps o).contains d | none => true) &&
    headOkR ((i, o.dst) :: done) (i + 1) r
def drawOkR (l : List Oper) (t : Nat) : Bool :=
  headOkR [] 0 (l.take t) && lateOk (l.take t) && Nat.blt t l.length && Region.sinkB .any l.toArray t && Region.chainB .any l.toArray t && Region.seqB .any l.toArray (l.length - t) t (canonListed t l.length)
section
variable {R : World → World → Prop} {P : Program} {n : Nat} {all : List Oper} {ρ : Fr} {w : World} {K : AccR R → Prop}
abbrev TripR (R : World → World → Prop) := Nat × Option Tmp × EntR R
def ObR (P : Program) (n : Nat) (all : List Oper) (ρ : Fr) (w : World) (o : Oper) (acc : AccR R) (e : EntR R) : Prop :=
  ∀ x w', R w w' → depsAR x w' o.after.toList acc → WpR P n all (obQR w' o.dst e) [o] (frAR ρ x acc) w'
theorem obs_listR : ∀ (r : List Oper) (acc : AccR R) (i : Nat), ObsR P n all ρ w K acc i r →
    ∃ L : List (TripR R), L.length = r.length ∧ K (L.reverse ++ acc) ∧ ∀ k (hk : k < r.length), ∃ e, L[k]? = some (i + k, r[k].dst, e) ∧ ObR P n all ρ w r[k] ((L.take k).reverse ++ acc) e := by
  intro r
  induction r with
  | nil => intro acc i h; exact ⟨[], rfl, h, fun k hk => absurd hk (by simp)⟩
  | cons o r ih =>
    rintro acc i ⟨e, ho, hr⟩
    obtain ⟨L, hl, hK, hL⟩ := ih _ _ hr
    refine ⟨(i, o.dst, e) :: L, by simp [hl], by simpa using hK, fun k hk => ?_⟩
    cases k with
    | zero => exact ⟨e, rfl, ho⟩
    | succ k =>
      obtain ⟨e', h1, h2⟩ := hL k (by simpa using hk)
      refine ⟨e', ?_, ?_⟩
      · simp only [List.getElem?_cons_succ, h1, List.getElem_cons_succ]
        rw [show i + 1 + k = i + (k + 1) by omega]
      · simpa using h2
/-- What headOkR says of one operation. -/
structure HOkR (done : List (Nat × Option Tmp)) (i : Nat) (o : Oper) : Prop where
  dst : ∀ d, o.dst = some d → ∀ p ∈ done, p.2 ≠ some d
  sel : ∀ cs b, o.op ≠ .select cs b
  low : ∀ e ∈ o.after, Region.binds .any e = true → e.on < i
  deps : ∀ p ∈ done, ∀ d, p.2 = some d → hasEdge o.after.toList p.1 = true ∨ (d ∉ operTmps o ∧ ∀ g b, o.guard = some (g, b) → g ≠ p.1)
  guard : ∀ g b, o.guard = some (g, b) → g < i
theorem headOk_listR : ∀ (r : List Oper) (done : List (Nat × Option Tmp)) (i : Nat), headOkR done i r = true → ∀ k (hk : k < r.length),
    HOkR (((List.range k).map fun j => (i + j, (r[j]?.bind (·.dst)))).reverse ++ done) (i + k) r[k] := by
  intro r
  induction r with
  | nil => intro done i h k hk; exact absurd hk (by simp)
  | cons o r ih =>
    intro done i h k hk
    simp only [headOkR, Bool.and_eq_true] at h
    obtain ⟨⟨⟨⟨⟨⟨h1, h2⟩, h3⟩, h4⟩, h5⟩, h6⟩, h7⟩ := h
    cases k with
    | zero =>
      simp only [List.range_zero, List.map_nil, List.reverse_nil, List.nil_append, Nat.add_zero, List.getElem_cons_zero]
      refine ⟨?_, ?_, ?_, ?_, ?_⟩
      · intro d hd p hp
        rw [hd] at h1
        have := List.all_eq_true.1 h1 p hp
        simpa using this
      · intro cs b e
        rw [e] at h2
        cases h2
      · intro e he hb
        have := List.all_eq_true.1 h3 e (Array.mem_toList_iff.2 he)
        simp only [hb, Bool.not_true, Bool.false_or] at this
        exact Nat.le_of_ble_eq_true this
      · intro p hp d hd
        have := List.all_eq_true.1 h4 p hp
        simp only [Bool.or_eq_true, hd, Bool.and_eq_true] at this
        rcases this with h | ⟨ha, hb⟩
        · exact .inl h
        · refine .inr ⟨by simpa using ha, fun g b hg => ?_⟩
          rw [hg] at hb
          simpa using hb
      · intro g b hg
        rw [hg] at h5
        exact Nat.le_of_ble_eq_true h5
    | succ k =>
      have := ih _ _ h7 k (by simpa using hk)
      have e1 : ((List.range (k + 1)).map fun j => (i + j, ((o :: r)[j]?.bind (·.dst)))).reverse ++ done = ((List.range k).map fun j => (i + 1 + j, (r[j]?.bind (·.dst)))).reverse ++ ((i, o.dst) :: done) := by
        rw [List.range_succ_eq_map]
        simp only [List.map_cons, List.map_map, List.reverse_cons, List.append_assoc, List.cons_append, List.nil_append, List.getElem?_cons_zero, Option.bind_some, Nat.add_zero]
        congr 2
        refine List.map_congr_left fun j _ => ?_
        simp only [Function.comp, List.getElem?_cons_succ]
        rw [show i + (j + 1) = i + 1 + j by omega]
      rw [e1, show i + (k + 1) = i + 1 + k by omega]
      simpa using this
theorem frA_outR {x : Nat → Value} {s : Nat} : ∀ {acc : AccR R}, (∀ p ∈ acc, p.2.1 ≠ some s) → frAR ρ x acc s = ρ s := by
  intro acc
  induction acc with
  | nil => intro _; rfl
  | cons a r ih =>
    intro h
    obtain ⟨i, d, e⟩ := a
    have h1 := h _ (List.mem_cons_self ..)
    have h2 := ih fun p hp => h p (List.mem_cons_of_mem _ hp)
    cases d with
    | none => exact h2
    | some d =>
      show upd _ d _ s = _
      rw [upd_ne, h2]
      cases hb : Nat.beq s d with
      | false => rfl
      | true => exact absurd (congrArg some (Nat.eq_of_beq_eq_true hb).symm) h1
theorem frA_inR {x : Nat → Value} {s i : Nat} {e : EntR R} : ∀ {acc : AccR R}, (i, some s, e) ∈ acc → (∀ p ∈ acc, p.2.1 = some s → p = (i, some s, e)) → frAR ρ x acc s = e.X.getD (x i) := by
  intro acc
  induction acc with
  | nil => intro h; cases h
  | cons a r ih =>
    intro h hu
    obtain ⟨j, d, e'⟩ := a
    by_cases hd : d = some s
    · have := hu _ (List.mem_cons_self ..) hd
      simp only [Prod.mk.injEq] at this
      obtain ⟨rfl, rfl, rfl⟩ := this
      exact upd_same _ _ _
    · have hm : (i, some s, e) ∈ r := by
        rcases List.mem_cons.1 h with h | h
        · simp only [Prod.mk.injEq] at h; exact absurd h.2.1.symm hd
        · exact h
      have h2 := ih hm fun p hp => hu p (List.mem_cons_of_mem _ hp)
      cases d with
      | none => exact h2
      | some d =>
        show upd _ d _ s = _
        rw [upd_ne, h2]
        cases hb : Nat.beq s d with
        | false => rfl
        | true => exact absurd (congrArg some (Nat.eq_of_beq_eq_true hb).symm) hd
theorem depsA_ofR {x : Nat → Value} {w' : World} {es : List Edge} : ∀ {acc : AccR R}, (∀ p ∈ acc, hasEdge es p.1 = true → p.2.2.p (p.2.2.X.getD (x p.1)) w') → depsAR x w' es acc := by
  intro acc
  induction acc with
  | nil => intro _; trivial
  | cons a r ih =>
    intro h
    obtain ⟨i, d, e⟩ := a
    refine ⟨?_, ih fun p hp => h p (List.mem_cons_of_mem _ hp)⟩
    cases hb : hasEdge es i with
    | false => trivial
    | true => exact h _ (List.mem_cons_self ..) hb
theorem allA_ofR {x : Nat → Value} {w' : World} : ∀ {acc : AccR R}, (∀ p ∈ acc, p.2.2.p (p.2.2.X.getD (x p.1)) w') → allAR x w' acc := by
  intro acc
  induction acc with
  | nil => intro _; trivial
  | cons a r ih =>
    intro h
    obtain ⟨i, d, e⟩ := a
    exact ⟨h _ (List.mem_cons_self ..), ih fun p hp => h p (List.mem_cons_of_mem _ hp)⟩
/-- One operation of the head, met at a frame that it cannot tell from the other one. -/
theorem one_opR {R : World → World → Prop} {P : Program} {n : Nat} {D : List Deferred} {all : List Oper} {o : Oper} {e : EntR R} {F ρ' : Fr} {a : Act} {w' : World} {K : Act → World → Prop} {Q : Exit → Act → World → Prop} {i : Nat}
    (hi : all[i]? = some o) (hok : dstOk n o = true) (hsel : ∀ cs b, o.op ≠ .select cs b) (hF : ∀ k, n ≤ k → F k = undef) (hm : Mt n D a ρ')
    (heq : ∀ s ∈ operTmps o, F s = ρ' s) (hg : ∀ g b, o.guard = some (g, b) → ∀ s, dstAt all g = some s → F s = ρ' s)
    (h : WpR P n all (obQR w' o.dst e) [o] F w') (hK : ∀ v w2, R w' w2 → e.p (vv (updO ρ' o.dst v) o.dst) w2 → K (a.put o.dst v) w2) : wpOp P all.toArray Q i K a w' := by
  have hm2 := actOf_mt (D := D) hF
  unfold WpR at h
  have h2 := h (by simp [hok]) _ _ hm2
  have hev : execOp a.eval o = execOp (actOf n D F).eval o := by
    refine execOp_congr o hsel fun x hx => ?_
    cases x with
    | tmp s =>
      show a.tmps.getD s undef = (actOf n D F).tmps.getD s undef
      rw [hm.get, hm2.get]
      refine (heq s ?_).symm
      exact List.mem_filterMap.2 ⟨.tmp s, Array.mem_toList_iff.2 hx, rfl⟩
    | _ => rfl
  have hw : Region.wanted o (yielded all.toArray a.tmps) = Region.wanted o (yielded all.toArray (actOf n D F).tmps) := by
    unfold Region.wanted
    cases hgd : o.guard with
    | none => rfl
    | some gb =>
      obtain ⟨g, b⟩ := gb
      have hy : yielded all.toArray a.tmps g = yielded all.toArray (actOf n D F).tmps g := by
        unfold yielded
        cases hs : dstAt all g with
        | none =>
          have : ((all.toArray)[g]?).bind (·.dst) = none := by simpa [dstAt] using hs
          rw [this]; rfl
        | some s =>
          have : ((all.toArray)[g]?).bind (·.dst) = some s := by simpa [dstAt] using hs
          rw [this]
          have h3 : a.tmps.getD s undef = (actOf n D F).tmps.getD s undef := by rw [hm.get, hm2.get]; exact (hg g b hgd s hs).symm
          have s1 := hm.size
          have s2 := hm2.size
          by_cases hlt : s < n
          · have l1 : s < a.tmps.size := by omega
            have l2 : s < (actOf n D F).tmps.size := by omega
            simp only [Array.getD, l1, l2, dite_true] at h3
            have h4 : a.tmps[s] = (actOf n D F).tmps[s] := h3
            simp only [Option.bind_some, Array.getElem?_eq_getElem l1, Array.getElem?_eq_getElem l2, h4]
          · have l1 : a.tmps.size ≤ s := by omega
            have l2 : (actOf n D F).tmps.size ≤ s := by omega
            simp only [Option.bind_some, Array.getElem?_eq_none l1, Array.getElem?_eq_none l2]
      simp only [hy]
  have hpost : ∀ v w2, lift n D (obQR w' o.dst e) .normal ((actOf n D F).put o.dst v) w2 → R w' w2 ∧ e.p (vv (updO ρ' o.dst v) o.dst) w2 := by
    rintro v w2 ⟨ρ2, hm3, _, hx, hp⟩
    refine ⟨hx, ?_⟩
    cases hdst : o.dst with
    | none => rw [hdst] at hp; exact hp
    | some d =>
      have hdn : Nat.blt d n = true := by unfold dstOk at hok; rw [hdst] at hok; exact hok
      have h3 := (hm2.put hdn v).get d
      rw [upd_same] at h3
      have h4 := hm3.get d
      rw [hdst, h3] at h4
      rw [hdst] at hp
      show e.p (upd ρ' d v d) w2
      rw [upd_same, h4]
      exact hp
  have hio : (all.toArray)[i]? = some o := by simpa using hi
  have hnl : ¬ LetsOut (lift n D (obQR w' o.dst e)) := by
    rintro ⟨a0, w0, ρ0, _, h0, _⟩
    cases h0
  unfold wpOp
  simp only [hio, hw]
  unfold wpList at h2
  cases hwd : Region.wanted o (yielded all.toArray (actOf n D F).tmps) with
  | true =>
    simp only [hwd, if_true] at h2 ⊢
    rcases h2 with h2 | ⟨_, h2⟩
    · left
      unfold Oper.wp at h2 ⊢
      rw [hev]
      refine upon_conv (fun v w2 hk => ?_) (fun dd v w2 hk => ?_) (fun c a0 w0 hc => ?_) hnl h2
      · obtain ⟨h5, h6⟩ := hpost v w2 hk
        exact hK v w2 h5 h6
      · obtain ⟨ρ2, hm3, _⟩ := hk
        have := hm3.defers
        have h9 : (actOf n D F).defers = D := rfl
        cases hdd : o.dst <;> simp [hdd, Act.put, h9] at this
      · obtain ⟨ρ0, _, h0, _⟩ := hc
        cases h0
    · exact (hnl h2).elim
  | false =>
    simp only [hwd, Bool.false_eq_true, if_false] at h2 ⊢
    obtain ⟨h5, h6⟩ := hpost undef w' h2
    exact hK undef w' h5 h6
theorem wp_drawnR {R : World → World → Prop} {P : Program} {n : Nat} {Q : Post} {ρ : Fr} {w : World} {id : Nat} {l : List Oper} (t : Nat) (hRt : ∀ {a b c : World}, R a b → R b c → R a c) (hRd : ∀ w : World, R w { w with drawn := w.drawn + 1 }) (hmo : P.follows .mixedOrders = true) (hchk : drawOkR l t = true)
    (h : ObsR P n l ρ w (fun (acc : AccR R) => ∀ x w', R w w' → allAR x w' acc → WpR P n l Q (l.drop t) (frAR ρ x acc) w') [] 0 (l.take t)) : Wp P n (.region id l.toArray true) Q ρ w := by
  simp only [drawOkR, Bool.and_eq_true] at hchk
  obtain ⟨⟨⟨⟨⟨c1, c2⟩, c3⟩, c4⟩, c5⟩, c6⟩ := hchk
  have htl : t < l.length := Nat.le_of_ble_eq_true c3
  have htk : (l.take t).length = t := by rw [List.length_take]; omega
  obtain ⟨L, hL, hK, hO⟩ := obs_listR _ _ _ h
  rw [htk] at hL
  simp only [List.append_nil] at hK hO
  have hget : ∀ k (hk : k < t), (l.take t)[k]'(by omega) = l[k] := fun k hk => by simp
  have hHd0 := headOk_listR _ _ _ c1
  have hHd : ∀ k (hk : k < t), HOkR (((List.range k).map fun j => (0 + j, ((l.take t)[j]?.bind (·.dst)))).reverse ++ []) (0 + k) ((l.take t)[k]'(by omega)) := fun k hk => hHd0 k (by omega)
  have hLt := lateOk_list _ c2
  unfold Wp
  intro hc D act hmt
  simp only [codeOk, List.all_eq_true] at hc
  refine wp_region_any hmo ?_
  have hw1 : R w { w with drawn := w.drawn + 1 } := hRd w
  have hsz : l.toArray.size = t + (l.length - t) := by simp; omega
  have hund : ∀ i, n ≤ i → ρ i = undef := fun i hi => by rw [← hmt.get i]; simp [Array.getD, hmt.size]; omega
  -- the slots of the head
  have hds : ∀ k (hk : k < t), ∃ e : EntR R, L[k]? = some (k, l[k].dst, e) ∧ dstOk n l[k] = true ∧ ObR P n l ρ w l[k] ((L.take k).reverse) e := by
    intro k hk
    obtain ⟨e, h1, h2⟩ := hO k (by omega)
    rw [Nat.zero_add] at h1
    rw [hget k hk] at h1 h2
    exact ⟨e, by simpa using h1, hc l[k] (by simp), h2⟩
  have hapart : ∀ j k (hj : j < t) (hk : k < t) d, j < k → l[j].dst = some d → l[k].dst ≠ some d := by
    intro j k hj hk d hjk hd hd2
    refine (hHd k hk).dst d (by rw [hget k hk]; exact hd2) (0 + j, ((l.take t)[j]?.bind (·.dst))) ?_ ?_
    · refine List.mem_append_left _ (List.mem_reverse.2 (List.mem_map.2 ⟨j, List.mem_range.2 hjk, rfl⟩))
    · rw [List.getElem?_eq_getElem (by omega)]
      simp only [Option.bind_some, hget j hj, hd]
  have huniq : ∀ j k (hj : j < t) (hk : k < t) d, l[j].dst = some d → l[k].dst = some d → j = k := by
    intro j k hj hk d h1 h2
    rcases Nat.lt_trichotomy j k with h | h | h
    · exact absurd h2 (hapart j k hj hk d h h1)
    · exact h
    · exact absurd h1 (hapart k j hk hj d h h2)
  -- the accumulated triples
  have hmem : ∀ m, m ≤ t → ∀ p ∈ (L.take m).reverse, ∃ k, ∃ hk : k < t, k < m ∧ p.1 = k ∧ p.2.1 = l[k].dst ∧ L[k]? = some p := by
    intro m hm p hp
    rw [List.mem_reverse] at hp
    obtain ⟨k, hk, hpk⟩ := List.mem_iff_getElem.1 hp
    simp only [List.length_take] at hk
    have hkt : k < t := by omega
    have h1 : L[k]? = some p := by
      rw [List.getElem_take] at hpk
      rw [← hpk]
      exact List.getElem?_eq_getElem (by omega)
    obtain ⟨e, h2, _⟩ := hds k hkt
    have h4 := h1.symm.trans h2
    simp only [Option.some.injEq] at h4
    exact ⟨k, hkt, by omega, by rw [h4], by rw [h4], h1⟩
  have hin : ∀ m, m ≤ t → ∀ k (hk : k < t), k < m → ∀ q, L[k]? = some q → q ∈ (L.take m).reverse := by
    intro m hm k hk hkm q hq
    rw [List.mem_reverse]
    refine List.mem_of_getElem? (i := k) ?_
    rw [List.getElem?_take, if_pos hkm]
    exact hq
  -- the invariant
  let Inv : Array Bool → Act → World → Prop := fun listed a w' => ∃ ρ', Mt n D a ρ' ∧ R w w' ∧ (∀ s, (∀ k (hk : k < t), l[k].dst ≠ some s) → ρ' s = ρ s) ∧
    (∀ k, k < t → listed.getD k false = true → ∀ d e, L[k]? = some (k, d, e) → e.p (vv ρ' d) w')
  have fin : ∀ listed a w', HeadInv .any l.toArray t listed → unl listed t = 0 → Inv listed a w' → wpAny P .any l.toArray (lift n D Q) (l.length - t) listed a w' := by
    rintro listed a w' inv h0 ⟨ρ', hm', hx, hout, hp⟩
    have hz := unl_zero h0
    have hcan : listed = canonListed t l.length := by
      refine Array.ext (by rw [inv.size]; simp [canonListed]) fun i h1 h2 => ?_
      have hsz2 := inv.size
      have hil : i < l.length := by simpa [hsz2] using h1
      by_cases hit : i < t
      · have h3 := hz i hit
        simp only [Array.getD, h1, dite_true] at h3
        have h4 : listed[i] = true := h3
        simp [canonListed, h4, hit]
      · have h3 := inv.tail i (by omega) (by simpa using hil)
        simp only [Array.getD, h1, dite_true] at h3
        have h4 : listed[i] = false := h3
        simp [canonListed, h4]
        omega
    have hall : ∀ k, k < t → ∀ d e, L[k]? = some (k, d, e) → e.p (vv ρ' d) w' := fun k hk => hp k hk (hz k hk)
    have hF : frAR ρ (fun k => match L[k]? with | some (_, d, _) => vv ρ' d | none => undef) L.reverse = ρ' := by
      funext s
      by_cases hs : ∃ k, ∃ hk : k < t, l[k].dst = some s
      · obtain ⟨k, hk, hd⟩ := hs
        obtain ⟨e, h1, _⟩ := hds k hk
        rw [hd] at h1
        have hfull : L.take t = L := List.take_of_length_le (by omega)
        have hi1 := hin t (Nat.le_refl _) k hk hk _ h1
        rw [hfull] at hi1
        rw [frA_inR hi1 ?_]
        · simp only [h1]
          have := hall k hk (some s) e h1
          cases hX : e.X with
          | none => rfl
          | some Y => simp only [Option.getD_some]; exact (e.hX _ _ _ this hX).symm
        · intro p hp' hps
          rw [← hfull] at hp'
          obtain ⟨j, hj, _, h3, h4, h5⟩ := hmem t (Nat.le_refl _) p hp'
          rw [hps] at h4
          have := huniq j k hj hk s h4.symm hd
          subst this
          have := h5.symm.trans h1
          simpa using this
      · have hs' : ∀ k (hk : k < t), l[k].dst ≠ some s := fun k hk hd => hs ⟨k, hk, hd⟩
        rw [frA_outR, hout s hs']
        intro p hp' hps
        have hfull : L.take t = L := List.take_of_length_le (by omega)
        rw [← hfull] at hp'
        obtain ⟨j, hj, _, h3, h4, h5⟩ := hmem t (Nat.le_refl _) p hp'
        exact hs' j hj (by rw [← h4, hps])
    have hrun := hK (fun k => match L[k]? with | some (_, d, _) => vv ρ' d | none => undef) w' hx (allA_ofR fun p hp' => by
      have hfull : L.take t = L := List.take_of_length_le (by omega)
      rw [← hfull] at hp'
      obtain ⟨j, hj, _, h3, h4, h5⟩ := hmem t (Nat.le_refl _) p hp'
      obtain ⟨e, h1, _⟩ := hds j hj
      have h6 := h5.symm.trans h1
      simp only [Option.some.injEq] at h6
      subst h6
      simp only [h1]
      have h7 := hall j hj _ e h1
      cases hX : e.X with
      | none => exact h7
      | some Y => exact e.hY _ _ hX)
    rw [hF] at hrun
    unfold WpR at hrun
    have hlen : (l.drop t).length = l.length - t := by simp
    rw [← hlen]
    refine wpAny_of_seq (l.drop t) t listed a w' (fun j => by simp) ?_ (hrun ?_ _ a hm')
    · rw [hcan, hlen]; exact c6
    · rw [List.all_eq_true]
      intro o ho
      exact hc o (by simpa using List.mem_of_mem_drop ho)
  have key : ∀ f listed a w', HeadInv .any l.toArray t listed → unl listed t = f → Inv listed a w' → wpAny P .any l.toArray (lift n D Q) (f + (l.length - t)) listed a w' := by
    intro f
    induction f with
    | zero => intro listed a w' inv h0 hI; rw [Nat.zero_add]; exact fin listed a w' inv h0 hI
    | succ f ih =>
      intro listed a w' inv hf hI
      rw [show f + 1 + (l.length - t) = (f + (l.length - t)) + 1 by omega]
      obtain ⟨i0, hi0, hl0, hlow⟩ := unl_least (show unl listed t ≠ 0 by omega)
      have hsz2 := inv.size
      have hsz3 : listed.size = l.length := by simpa using hsz2
      have hr0 : i0 ∈ Region.ready .any l.toArray listed := by
        rw [mem_ready]
        refine ⟨getD_in (by omega) hl0, l[i0], by simp, fun e he hb => hlow _ ?_⟩
        have := (hHd i0 hi0).low e (by rw [hget i0 hi0]; exact he) hb
        omega
      refine ⟨fun he => absurd (he ▸ hr0) (by simp), fun i hi => ?_⟩
      have hit : i < t := by
        rcases Nat.lt_or_ge i t with h | h
        · exact h
        · exact absurd hi (tail_waits c4 c5 (by simpa using htl) inv _ i0 rfl hi0 (mem_ready.1 hr0).1 i h)
      obtain ⟨hun, oi, hoi, hdep⟩ := mem_ready.1 hi
      have hoi' : l[i] = oi := by simpa [hit, show i < l.length by omega] using hoi
      obtain ⟨ρ', hm', hx, hout, hp⟩ := hI
      obtain ⟨e, h1, h3, h4⟩ := hds i hit
      have hH := hHd i hit
      rw [hget i hit] at hH
      let x : Nat → Value := fun k => match L[k]? with | some (_, d, _) => vv ρ' d | none => undef
      have hdl : ∀ k, hasEdge l[i].after.toList k = true → listed.getD k false = true := by
        intro k hk
        obtain ⟨ed, h5, h6, h7⟩ := hasEdge_spec hk
        rw [← h7]
        exact hdep ed (by rw [← hoi']; exact Array.mem_toList_iff.1 h5) h6
      have hdep2 : depsAR x w' l[i].after.toList ((L.take i).reverse) := depsA_ofR fun p hp' he => by
        obtain ⟨j, hj, hji, h5, h6, h7⟩ := hmem i (by omega) p hp'
        obtain ⟨e', h8, _⟩ := hds j hj
        have h10 := h7.symm.trans h8
        simp only [Option.some.injEq] at h10
        subst h10
        have h11 := hp j hj (hdl j he) _ e' h8
        cases hX : e'.X with
        | none => simp only [x, h8, Option.getD_none]; exact h11
        | some Y => exact e'.hY _ _ hX
      have hF : ∀ s, (∀ k (hk : k < t), l[k].dst = some s → k < i ∧ listed.getD k false = true) → frAR ρ x ((L.take i).reverse) s = ρ' s := by
        intro s hs
        by_cases hsx : ∃ k, ∃ hk : k < t, l[k].dst = some s
        · obtain ⟨k, hk, hd⟩ := hsx
          obtain ⟨hki, hkl⟩ := hs k hk hd
          obtain ⟨e', h8, _⟩ := hds k hk
          rw [hd] at h8
          rw [frA_inR (hin i (by omega) k hk hki _ h8) ?_]
          · have h11 := hp k hk hkl (some s) e' h8
            cases hX : e'.X with
            | none => simp only [x, h8, Option.getD_none, vv]
            | some Y => simp only [Option.getD_some]; exact (e'.hX _ _ _ h11 hX).symm
          · intro p hp' hps
            obtain ⟨j, hj, _, h5, h6, h7⟩ := hmem i (by omega) p hp'
            rw [hps] at h6
            have := huniq j k hj hk s h6.symm hd
            subst this
            simpa using h7.symm.trans h8
        · have hs' : ∀ k (hk : k < t), l[k].dst ≠ some s := fun k hk hd => hsx ⟨k, hk, hd⟩
          rw [frA_outR, hout s hs']
          intro p hp' hps
          obtain ⟨j, hj, _, h5, h6, h7⟩ := hmem i (by omega) p hp'
          exact hs' j hj (by rw [← h6, hps])
      have hoil : l[i]? = some l[i] := List.getElem?_eq_getElem (by omega)
      have hslot : ∀ k (hk : k < t) s, l[k].dst = some s → s ∈ operTmps l[i] → k < i ∧ listed.getD k false = true := by
        intro k hk s hks hso
        have hki : k < i := by
          rcases Nat.lt_or_ge k i with h | h
          · exact h
          · have := hLt i k (by omega) (by omega) h s (by rw [hget k hk]; exact hks)
            rw [hget i hit] at this
            exact absurd hso this
        have h5 := hH.deps (0 + k, ((l.take t)[k]?.bind (·.dst))) (List.mem_append_left _ (List.mem_reverse.2 (List.mem_map.2 ⟨k, List.mem_range.2 hki, rfl⟩))) s (by
          rw [List.getElem?_eq_getElem (by omega)]
          simp only [Option.bind_some, hget k hk, hks])
        rcases h5 with h5 | h5
        · exact ⟨hki, hdl k (by simpa using h5)⟩
        · exact absurd hso h5.1
      refine one_opR (o := l[i]) (e := e) (ρ' := ρ') (F := frAR ρ x ((L.take i).reverse)) hoil h3 hH.sel ?_ hm' ?_ ?_ (h4 x w' hx hdep2) ?_
      · intro k hk
        rw [frA_outR, hund k hk]
        intro p hp' hps
        obtain ⟨j, hj, _, h5, h6, h7⟩ := hmem i (by omega) p hp'
        obtain ⟨e', h8, h10, _⟩ := hds j hj
        rw [hps] at h6
        unfold dstOk at h10
        rw [← h6] at h10
        have := Nat.le_of_ble_eq_true h10
        omega
      · intro s hs
        exact hF s fun k hk hks => hslot k hk s hks hs
      · intro g b hgd s hs
        refine hF s fun k hk hks => ?_
        have hgi := hH.guard g b hgd
        have hgt : g < t := by omega
        have hgs : l[g].dst = some s := by
          unfold dstAt at hs
          rw [List.getElem?_eq_getElem (by omega)] at hs
          simpa using hs
        obtain rfl := huniq k g hk hgt s hks hgs
        have h5 := hH.deps (0 + k, ((l.take t)[k]?.bind (·.dst))) (List.mem_append_left _ (List.mem_reverse.2 (List.mem_map.2 ⟨k, List.mem_range.2 (by omega), rfl⟩))) s (by
          rw [List.getElem?_eq_getElem (by omega)]
          simp only [Option.bind_some, hget k hk, hks])
        rcases h5 with h5 | h5
        · exact ⟨by omega, hdl k (by simpa using h5)⟩
        · exact absurd (by omega) (h5.2 k b hgd)
      · intro v w2 hx2 hev
        refine ih _ _ _ (inv.set hi hit) ?_ ⟨updO ρ' l[i].dst v, ?_, hRt hx hx2, ?_, ?_⟩
        · rw [unl_set (by omega) (getD_both hun), if_pos hit]; omega
        · exact hm'.putO h3 v
        · intro s hs
          cases hdi : l[i].dst with
          | none => exact hout s hs
          | some d =>
            show upd ρ' d v s = _
            rw [upd_ne, hout s hs]
            cases hb : Nat.beq s d with
            | false => rfl
            | true => exact absurd (by rw [Nat.eq_of_beq_eq_true hb]; exact hdi) (hs i hit)
        · intro k hk hkl d' e' h8
          obtain ⟨e2, h9, _⟩ := hds k hk
          have h11 := h8.symm.trans h9
          simp only [Option.some.injEq, Prod.mk.injEq, true_and] at h11
          obtain ⟨rfl, rfl⟩ := h11
          by_cases hki : i = k
          · subst hki
            have h12 := h8.symm.trans h1
            simp only [Option.some.injEq, Prod.mk.injEq, true_and] at h12
            subst h12
            exact hev
          · rw [getD_set_ne false hki] at hkl
            have hq := e'.keep _ _ _ (hp k hk hkl _ e' h8) hx2
            cases hdk : l[k].dst with
            | none => rw [hdk] at hq; exact hq
            | some d' =>
              rw [hdk] at hq
              cases hdi : l[i].dst with
              | none => exact hq
              | some d =>
                have hne : Nat.beq d' d = false := by
                  cases hb : Nat.beq d' d with
                  | false => rfl
                  | true =>
                    have := Nat.eq_of_beq_eq_true hb
                    subst this
                    exact absurd (huniq k i hk hit d' hdk hdi) (fun e => hki e.symm)
                show e'.p (upd ρ' d v d') w2
                rw [upd_ne hne]
                exact hq
  have hs := key t (Array.replicate l.toArray.size false) act { w with drawn := w.drawn + 1 }
    ⟨by simp, fun j oj _ hl => (by rw [getD_replicate_false] at hl; cases hl), fun k _ hk => getD_in (by simpa using hk) (getD_replicate_false _ _)⟩
    (unl_new _ _ (by simp; omega)) ⟨ρ, hmt, hw1, fun _ _ => rfl, fun k _ hk => (by rw [getD_replicate_false] at hk; cases hk)⟩
  rwa [← hsz] at hs
section
variable {R : World → World → Prop} {P : Program} {n : Nat} {all r : List Oper} {ρ : Fr} {w : World} {K : AccR R → Prop} {acc : AccR R} {i : Nat} {o : Oper}
theorem ob_stepR {e : EntR R} (h1 : ∀ x w', R w w' → depsAR x w' o.after.toList acc → WpR P n all (obQR w' o.dst e) [o] (frAR ρ x acc) w')
    (h2 : ObsR P n all ρ w K ((i, o.dst, e) :: acc) (i + 1) r) : ObsR P n all ρ w K acc i (o :: r) := ⟨e, h1, h2⟩
theorem ob_nilR (h : K acc) : ObsR P n all ρ w K acc i [] := h
theorem ob_eqR {F : Fr} {d : Nat} {v : Value} (hr : R w w) : obQR w (some d) (EntR.eq (R := R) v) .normal (upd F d v) w := ⟨rfl, hr, upd_same _ _ _⟩
theorem ob_ofR {F : Fr} {d : Nat} {v : Value} {w' : World} {p : Value → World → Prop} {h : ∀ v w w', p v w → R w w' → p v w'} (hx : R w w') (hp : p v w') :
    obQR w (some d) (EntR.of p h) .normal (upd F d v) w' := ⟨rfl, hx, by show p (upd F d v d) w'; rw [upd_same]; exact hp⟩
theorem ob_doneR {F : Fr} {w' : World} {p : Value → World → Prop} {h : ∀ v w w', p v w → R w w' → p v w'} (hx : R w w') (hp : p undef w') :
    obQR w none (EntR.of p h) .normal F w' := ⟨rfl, hx, hp⟩
theorem ob_endR {l : List Oper} {Q : Post} (h : ∀ x w', R w w' → allAR x w' acc → WpR P n l Q r (frAR ρ x acc) w') : ∀ x w', R w w' → allAR x w' acc → WpR P n l Q r (frAR ρ x acc) w' := h
end
end
/-- One block is written, once: it holds old or new. -/
def OneW (g : Nat) (T : TypeId) (old new : List Value) (w w' : World) : Prop :=
  Wrt g w w' ∧ ((Blk w g T old ∨ Blk w g T new) → (Blk w' g T old ∨ Blk w' g T new)) ∧ (Blk w g T new → Blk w' g T new)
theorem OneW.refl {g : Nat} {T : TypeId} {old new : List Value} {w : World} : OneW g T old new w w := ⟨.refl, id, id⟩
theorem OneW.trans {g : Nat} {T : TypeId} {old new : List Value} {a b c : World} (h : OneW g T old new a b) (k : OneW g T old new b c) : OneW g T old new a c :=
  ⟨h.1.trans k.1, fun x => k.2.1 (h.2.1 x), fun x => k.2.2 (h.2.2 x)⟩
theorem OneW.of {g : Nat} {T : TypeId} {old new : List Value} {w w' : World} (h : Ext w w') : OneW g T old new w w' :=
  ⟨.of h, fun x => x.imp (fun b => b.to h) fun b => b.to h, fun b => b.to h⟩
theorem OneW.drew {g : Nat} {T : TypeId} {old new : List Value} (w : World) : OneW g T old new w { w with drawn := w.drawn + 1 } := .of (ext_drew w)
theorem OneW.wrote {g : Nat} {T : TypeId} {old new : List Value} {w w' : World} (h : Wrt g w w') (hn : Blk w' g T new) : OneW g T old new w w' := ⟨h, fun _ => .inr hn, fun _ => hn⟩
end Go.Proofs.YtpmnjjmngogkkaaGreatDoor
end

section
set_option linter.unusedVariables false
namespace Go.Proofs.YtpmnjjmngogkkaaGreatDoor
open Go Go.RowKit
/-- What the program reckons of magnitudes. -/
def qAbs (a b : Int) : Nat := if a < 0 ∧ 0 < a.natAbs % b.natAbs then a.natAbs / b.natAbs + 1 else a.natAbs / b.natAbs
def rAbs (a b : Int) : Nat := if a < 0 ∧ 0 < a.natAbs % b.natAbs then b.natAbs - a.natAbs % b.natAbs else a.natAbs % b.natAbs
theorem edm_pos {a b : Int} (hb : 0 < b) : a / b = (if a < 0 then -(qAbs a b : Int) else (qAbs a b : Int)) ∧ a % b = (rAbs a b : Int) := by
  obtain ⟨m, rfl⟩ := Int.eq_ofNat_of_zero_le (Int.le_of_lt hb)
  have hm : 0 < m := by omega
  have hd := Nat.div_add_mod a.natAbs m
  have hl := Nat.mod_lt a.natAbs hm
  have hdi : (m : Int) * ((a.natAbs / m : Nat) : Int) + ((a.natAbs % m : Nat) : Int) = (a.natAbs : Int) := by
    rw [← Int.natCast_mul, ← Int.natCast_add, hd]
  rw [Int.ediv_emod_unique hb]
  unfold qAbs rAbs
  rw [Int.natAbs_natCast]
  by_cases h1 : a < 0
  · rw [if_pos h1]
    by_cases h2 : 0 < a.natAbs % m
    · rw [if_pos ⟨h1, h2⟩, if_pos ⟨h1, h2⟩]
      have e : (m : Int) * -(((a.natAbs / m + 1 : Nat)) : Int) = -((m : Int) * ((a.natAbs / m : Nat) : Int)) - m := by
        rw [Int.mul_neg, Int.natCast_add, Int.mul_add]
        simp
        omega
      refine ⟨?_, by omega, by omega⟩
      rw [e]
      omega
    · rw [if_neg (fun h => h2 h.2), if_neg (fun h => h2 h.2)]
      refine ⟨?_, by omega, by omega⟩
      rw [Int.mul_neg]
      omega
  · rw [if_neg h1, if_neg (fun h => h1 h.1), if_neg (fun h => h1 h.1)]
    refine ⟨by omega, by omega, by omega⟩
theorem edm_abs {a b : Int} (hb : b ≠ 0) : (a / b).natAbs = qAbs a b ∧ (a / b < 0 ↔ (¬ (a < 0 ↔ b < 0)) ∧ 0 < qAbs a b) ∧ a % b = (rAbs a b : Int) := by
  by_cases h0 : 0 < b
  · obtain ⟨h1, h2⟩ := edm_pos (a := a) h0
    rw [h1, h2]
    refine ⟨by split <;> omega, ?_, rfl⟩
    split
    · constructor
      · intro h; exact ⟨fun x => by omega, by omega⟩
      · rintro ⟨_, h⟩; omega
    · constructor
      · intro h; omega
      · rintro ⟨h, _⟩; exact absurd ⟨fun x => by omega, fun x => by omega⟩ h
  · obtain ⟨h1, h2⟩ := edm_pos (a := a) (b := -b) (by omega)
    have e1 : qAbs a (-b) = qAbs a b := by unfold qAbs; rw [Int.natAbs_neg]
    have e2 : rAbs a (-b) = rAbs a b := by unfold rAbs; rw [Int.natAbs_neg]
    rw [e1] at h1
    rw [e2, Int.emod_neg] at h2
    rw [Int.ediv_neg] at h1
    have h3 : a / b = (if a < 0 then (qAbs a b : Int) else -(qAbs a b : Int)) := by split at h1 <;> simp_all <;> omega
    rw [h3, h2]
    refine ⟨by split <;> omega, ?_, rfl⟩
    split
    · constructor
      · intro h; omega
      · rintro ⟨h, _⟩; exact absurd ⟨fun x => by omega, fun x => by omega⟩ h
    · constructor
      · intro h; exact ⟨fun x => by omega, by omega⟩
      · rintro ⟨_, h⟩; omega
theorem Row.apart {S : Nat → Prop} {T T' : TypeId} {s n b : Nat} {w : World} {v : Value} {cs ds : List Value} (h : Row S T s w v n cs) (hb : Blk w b T' ds) (hT : T' ≠ T) : Row (fun k => S k ∧ k ≠ b) T s w v n cs := by
  refine ⟨h.1, ?_⟩
  rcases h.2 with h2 | ⟨b', off, cap, arr, fr, hv, h1, h2, hs, hg, h3, h4⟩
  · exact .inl h2
  · refine .inr ⟨b', off, cap, arr, fr, hv, h1, h2, ⟨hs, fun e => ?_⟩, hg, h3, h4⟩
    subst e
    unfold Blk at hb
    rw [hg] at hb
    simp at hb
    exact hT hb.2.1.symm
theorem signed0_c {S : Nat → Prop} {w : World} {vm : Value} {n : Nat} (hm : NatV S 127 .u32 w vm n) :
    Gives Tryz.prog 86 [.bool false, vm] w fun v' w' => Ext w w' ∧ IntV S 127 .u32 w' v' (n : Int) := by
  have h := signed_c (p := False) (n : Int) hm (Int.natAbs_natCast n) ⟨fun h => by omega, fun h => h.1.elim⟩
  rwa [tst_false fun h => h] at h
theorem iover_c {S : Nat → Prop} {w : World} {va vb : Value} {a b : Int} (hS : Up S w) (ha : IntV S 127 .u32 w va a) (hb : IntV S 127 .u32 w vb b) (hla : zl a ≤ 1099511626000) (hlb : zl b ≤ 1099511626000) (hb0 : b ≠ 0) :
    Gives Tryz.prog 101 [va, vb] w fun v' w' => ∃ vq vr, v' = .tuple #[vq, vr] ∧ Ext w w' ∧ IntV S 127 .u32 w' vq (a / b) ∧ IntV S 127 .u32 w' vr (a % b) := by
  obtain ⟨ma, rfl, ha⟩ := ha
  obtain ⟨mb, rfl, hb⟩ := hb
  obtain ⟨hq1, hq2, hq3⟩ := edm_abs (a := a) hb0
  have hq1' := hq1
  unfold zl at hla hlb
  refine gives_of Tryz.func101 rfl rfl rfl ?_
  repeat (first | refine wp_seq_region ?_ | refine wp_region ?_)
  refine r_box (cs := [.bool (tst (a < 0)), ma]) (by conv => (lhs; whnf)) rfl ?_
  intro w1 ga k1 hga hgsa
  skip
  refine r_box (cs := [.bool (tst (b < 0)), mb]) (by conv => (lhs; whnf)) rfl ?_
  intro w2 gb k2 hgb hgsb
  skip
  refine r_alloc (cs := [.bool false, .slice none 0 0]) rfl ?_
  intro w3 g k3 hg hgs
  skip
  refine r_alloc (cs := [.bool false, .slice none 0 0]) rfl ?_
  intro w4 g2 k4 hg2 hgs2
  replace hga := hga.to ((k2.trans k3).trans k4)
  replace hgb := hgb.to (k3.trans k4)
  have hgl := hg.lt
  replace hg := hg.to k4
  have k := ((k1.trans k2).trans k3).trans k4
  have hs := (k1.trans k2).size
  have hs3 := ((k1.trans k2).trans k3).size
  replace ha := ha.to k
  replace hb := hb.to k
  replace hS := hS.to k
  clear k1 k2 k3 k4
  repeat (first | refine r_load_blk rfl hga rfl ?_ | refine r_load_blk rfl hgb rfl ?_ | refine wp_seq_region ?_ | refine wp_region ?_ | refine r_nil ?_ | refine r_field rfl ?_)
  refine r_call (over_c hS ha hb (by omega) (by omega) (by omega)) rfl ?_
  rintro v5 w5 ⟨vq, vr, rfl, k5, hvq, hvr⟩
  replace hga := hga.to k5
  replace hgb := hgb.to k5
  replace hg := hg.to k5
  replace hg2 := hg2.to k5
  replace k := k.trans k5
  replace hb := hb.to k5
  replace hS := hS.to k5
  have hlq : dl (a.natAbs / b.natAbs) ≤ 1099511626000 := Nat.le_trans (dl_mono (Nat.div_le_self ..)) hla
  have hlr : a.natAbs % b.natAbs < b.natAbs := Nat.mod_lt _ (by omega)
  have hlr' := @dl_eq_zero (a.natAbs % b.natAbs)
  clear k5
  repeat (first | refine wp_seq_region ?_ | refine wp_seq_seq ?_ | refine wp_region ?_ | refine r_move (by conv => (lhs; whnf)) ?_ | refine r_assign (by conv => (lhs; whnf)) ?_ | refine r_nil ?_ | refine r_extract rfl rfl ?_ | refine r_field rfl ?_)
  refine r_mid [(17, 22)] (fun ρ w' => ρ 22 = .bool (tst (a < 0 ∧ 0 < a.natAbs % b.natAbs)) ∧ w' = w5) ?_ ?_
  · repeat (first | refine r_load_blk rfl hga rfl ?_ | refine r_move (by conv => (lhs; whnf)) ?_)
    refine r_guard_split rfl rfl ?_ ?_ <;> intro hneg
    · repeat (first | refine r_move (by conv => (lhs; whnf)) ?_ | refine r_nil ?_ | refine q_then ?_ | refine r_len (by conv => (lhs; whnf)) (by assumption) ?_ | refine r_guard_run rfl rfl ?_ | refine r_pick_true rfl (by conv => (lhs; whnf)) ?_ | refine r_gtr rfl rfl ?_)
      refine ⟨by (repeat (first | refine agree_upd rfl ?_ | exact agree_over | refine agree_sub rfl ?_ | exact agree_refl)), congrArg Value.bool (tst_congr ?_), rfl⟩
      unfold dl at hlr'
      exact ⟨fun h => ⟨hneg, by omega⟩, fun h => by omega⟩
    · repeat (first | refine r_nil ?_ | refine q_then ?_ | refine r_guard_skip rfl rfl rfl ?_ | refine r_pick_false rfl (by conv => (lhs; whnf)) ?_)
      refine ⟨by (repeat (first | refine agree_upd rfl ?_ | exact agree_over | refine agree_sub rfl ?_ | exact agree_refl)), ?_, rfl⟩
      show Value.bool false = _
      rw [tst_false fun h => hneg h.1]
  rintro u w6 ⟨h22, rfl⟩
  refine wp_learn 22 h22 ?_
  skip
  first | refine wp_seq_cond ?_ | refine wp_thenB ?_ | refine wp_thenBB ?_ | skip
  refine wp_join [(6, 7), (23, 29)] (fun ρ w' => ∃ vq vr, ρ 6 = vq ∧ ρ 7 = vr ∧ Ext w6 w' ∧ NatV S 127 .u32 w' vq (qAbs a b) ∧ NatV S 127 .u32 w' vr (rAbs a b)) rfl ?_ ?_ ?_
  · intro hr
    refine wp_drawn 7 (by kernel_rfl) (by kernel_rfl) ?_
    apply ob_step
    · intro x w1 k1 hd
      refine r_move (by conv => (lhs; whnf)) ?_
      refine r_nil ?_
      exact ob_eq
    refine ob_step (e := natE S 127 .u32 1) ?_ ?_
    · intro x w1 k1 hd
      refine r_call (one_c (hS.to k1)) rfl ?_
      rintro v2 w2 ⟨k2, h2⟩
      exact r_nil (ob_of k2 h2)
    refine ob_step (e := natE S 127 .u32 (a.natAbs / b.natAbs + 1)) ?_ ?_
    · intro x w1 k1 hd
      refine r_call (plus_c (hS.to k1) (hvq.to k1) hd.1 (by omega) (Nat.le_trans (dl_le (k := 1) (by decide)) (by decide))) rfl ?_
      rintro v2 w2 ⟨k2, h2⟩
      exact r_nil (ob_of k2 h2)
    apply ob_step
    · intro x w1 k1 hd
      refine r_field rfl ?_
      refine r_nil ?_
      exact ob_eq
    apply ob_step
    · intro x w1 k1 hd
      refine r_load_blk rfl (hgb.to k1) rfl ?_
      refine r_nil ?_
      exact ob_eq
    apply ob_step
    · intro x w1 k1 hd
      refine r_move (by conv => (lhs; whnf)) ?_
      refine r_nil ?_
      exact ob_eq
    refine ob_step (e := natE S 127 .u32 (b.natAbs - a.natAbs % b.natAbs)) ?_ ?_
    · intro x w1 k1 hd
      refine r_call (less_c (hS.to k1) (hb.to k1) (hvr.to k1) (by omega) (by omega)) rfl ?_
      rintro v2 w2 ⟨k2, h2⟩
      exact r_nil (ob_of k2 h2)
    refine ob_nil (ob_end ?_)
    intro x w7 k7 hall
    repeat (first | refine r_assign (by conv => (lhs; whnf)) ?_ | refine r_nil ?_ | refine q_then ?_)
    refine ⟨by (repeat (first | refine agree_upd rfl ?_ | exact agree_over | refine agree_sub rfl ?_ | exact agree_refl)), _, _, rfl, rfl, k7, ?_, ?_⟩
    · unfold qAbs
      rw [if_pos hr]
      exact hall.2.2.2.2.1
    · unfold rAbs
      rw [if_pos hr]
      exact hall.1
  · intro hr
    repeat (first | refine q_then ?_ | refine wp_skip ?_)
    refine ⟨by (repeat (first | refine agree_upd rfl ?_ | exact agree_over | refine agree_sub rfl ?_ | exact agree_refl)), _, _, rfl, rfl, .refl, ?_, ?_⟩
    · unfold qAbs
      rw [if_neg hr]
      exact hvq
    · unfold rAbs
      rw [if_neg hr]
      exact hvr
  rintro u2 w7 ⟨vq2, vr2, h6, h7, k7, hq6, hq7⟩
  refine wp_learn 6 h6 ?_
  refine wp_learn 7 h7 ?_
  replace hga := hga.to k7
  replace hgb := hgb.to k7
  replace hg := hg.to k7
  replace hg2 := hg2.to k7
  replace k := k.trans k7
  replace hS := hS.to k7
  repeat (first | refine r_load_blk rfl hga rfl ?_ | refine r_load_blk rfl hgb rfl ?_ | refine wp_seq_region ?_ | refine wp_region ?_ | refine r_move (by conv => (lhs; whnf)) ?_ | refine r_neqB rfl rfl ?_ | refine r_field rfl ?_)
  refine r_call (signed_c (a / b) hq6 hq1 hq2) rfl ?_
  rintro v8 w8 ⟨k8, m8, rfl, h8⟩
  repeat (first | refine r_move (by conv => (lhs; whnf)) ?_)
  refine r_call (signed0_c (hq7.to k8)) rfl ?_
  rintro v9 w9 ⟨k9, m9, rfl, h9⟩
  skip
  refine r_store2 rfl rfl (hg.to (k8.trans k9)) rfl h8.one ?_
  intro w10 k10 hg10
  refine r_store2 rfl rfl ((hg2.to (k8.trans k9)).wr k10 (by omega)) rfl h9.one ?_
  intro w11 k11 hg11
  repeat (first | refine r_nil ?_ | refine q_then ?_ | refine wp_ret ?_)
  refine end2 rfl (resV_agg (by conv => (lhs; whnf)) (hg10.wr k11 (by omega)) rfl) (resV_agg (by conv => (lhs; whnf)) hg11 rfl) ⟨_, _, rfl, ?_, ?_, ?_⟩
  · exact ((((k.trans k8).trans k9).past k10 (by omega))).past k11 (by omega)
  · exact ⟨m8, rfl, ((h8.to k9).wrT k10 (hg.to (k8.trans k9)) (by decide)).wrT k11 ((hg2.to (k8.trans k9)).wr k10 (by omega)) (by decide)⟩
  · rw [hq3]
    exact ⟨m9, rfl, (h9.wrT k10 (hg.to (k8.trans k9)) (by decide)).wrT k11 ((hg2.to (k8.trans k9)).wr k10 (by omega)) (by decide)⟩
theorem idiv_c {S : Nat → Prop} {w : World} {va vb : Value} {a b : Int} (hS : Up S w) (ha : IntV S 127 .u32 w va a) (hb : IntV S 127 .u32 w vb b) (hla : zl a ≤ 1099511626000) (hlb : zl b ≤ 1099511626000) (hb0 : b ≠ 0) :
    Gives Tryz.prog 34 [va, vb] w fun v' w' => ∃ vq vr, v' = .tuple #[vq, vr, .int .i64 0] ∧ Ext w w' ∧ IntV S 127 .u32 w' vq (a / b) ∧ IntV S 127 .u32 w' vr (a % b) := by
  obtain ⟨ma, rfl, ha⟩ := ha
  obtain ⟨mb, rfl, hb⟩ := hb
  refine gives_of Tryz.func34 rfl rfl rfl ?_
  repeat (first | refine wp_seq_region ?_ | refine wp_region ?_)
  refine r_box (cs := [.bool (tst (a < 0)), ma]) (by conv => (lhs; whnf)) rfl ?_
  intro w1 ga k1 hga hgsa
  skip
  refine r_box (cs := [.bool (tst (b < 0)), mb]) (by conv => (lhs; whnf)) rfl ?_
  intro w2 gb k2 hgb hgsb
  skip
  refine r_alloc (cs := [.bool false, .slice none 0 0]) rfl ?_
  intro w3 g k3 hg hgs
  skip
  refine r_alloc (cs := [.bool false, .slice none 0 0]) rfl ?_
  intro w4 g2 k4 hg2 hgs2
  replace hga := hga.to ((k2.trans k3).trans k4)
  replace hgb := hgb.to (k3.trans k4)
  have hgl := hg.lt
  replace hg := hg.to k4
  have k := ((k1.trans k2).trans k3).trans k4
  have hs := (k1.trans k2).size
  have hs3 := ((k1.trans k2).trans k3).size
  replace ha := ha.to k
  replace hb := hb.to k
  replace hS := hS.to k
  clear k1 k2 k3 k4
  repeat (first | refine r_load_all rfl hgb rfl ?_ | refine wp_seq_region ?_ | refine wp_seq_seq ?_ | refine wp_region ?_ | refine r_assign (by conv => (lhs; whnf)) ?_ | refine r_nil ?_)
  refine r_call (sign_c ⟨mb, rfl, hb⟩) rfl ?_
  rintro v5 w5 ⟨rfl, k5⟩
  replace hg := hg.to k5
  replace hg2 := hg2.to k5
  replace hga := hga.to k5
  replace hgb := hgb.to k5
  repeat (first | refine r_nil ?_ | refine q_then ?_ | refine r_eql rfl rfl ?_)
  refine wp_cond_no rfl (fun h => hb0 (Int.sign_eq_zero_iff_zero.1 h)) ?_
  repeat (first | refine r_load_all rfl hgb rfl ?_ | refine r_load_all rfl hga rfl ?_ | refine wp_seq_region ?_ | refine wp_region ?_ | refine wp_skip ?_)
  refine r_call (iover_c (hS.to k5) ⟨ma, rfl, ha.to k5⟩ ⟨mb, rfl, hb.to k5⟩ hla hlb hb0) rfl ?_
  rintro v6 w6 ⟨vq, vr, rfl, k6, ⟨mq, rfl, hq⟩, ⟨mr, rfl, hr⟩⟩
  repeat (first | refine r_move (by conv => (lhs; whnf)) ?_ | refine r_extract rfl rfl ?_)
  refine r_alloc (cs := [.bool false, .slice none 0 0]) rfl ?_
  intro w7 gq k7 hgq hgsq
  skip
  refine r_alloc (cs := [.bool false, .slice none 0 0]) rfl ?_
  intro w8 gr k8 hgr hgsr
  have hgq7 := hgq.lt
  replace hgq := hgq.to k8
  replace hq := hq.to (k7.trans k8)
  replace hr := hr.to (k7.trans k8)
  have hgs5 := hg2.lt
  have hgs6 := k6.size
  have hgql := k7.size
  replace hg := hg.to ((k6.trans k7).trans k8)
  replace hg2 := hg2.to ((k6.trans k7).trans k8)
  refine r_store2 rfl rfl hgq rfl hq.one ?_
  intro w9 k9 hgq9
  refine r_store2 rfl rfl (hgr.wr k9 (by omega)) rfl hr.one ?_
  intro w10 k10 hgr10
  have hgrb := hgr.wr k9 (by omega)
  have hgqf := hgq9.wr k10 (by omega)
  replace hq := (hq.wrT k9 hgq (by decide)).wrT k10 hgrb (by decide)
  replace hr := (hr.wrT k9 hgq (by decide)).wrT k10 hgrb (by decide)
  replace hg := (hg.wr k9 (by omega)).wr k10 (by omega)
  replace hg2 := (hg2.wr k9 (by omega)).wr k10 (by omega)
  have kk : Ext w w10 := ((((((k.trans k5).trans k6).trans k7).trans k8).past k9 (by omega))).past k10 (by omega)
  have hS10 : Up S w10 := fun i hi => hS i (by have := k5.size; have := k6.size; have := k7.size; have := k8.size; have := k9.size; have := k10.size; omega)
  have hlr : (dg (a % b).natAbs).length ≤ 1099511627776 := by
    have h1 : dl (a % b).natAbs ≤ dl b.natAbs := dl_mono (by have := Int.emod_nonneg a hb0; have := Int.emod_lt_of_neg (a := a) (b := b); have := @Int.emod_lt_of_pos a b; rcases Int.lt_or_lt_of_ne hb0 with h | h <;> simp_all <;> omega)
    unfold zl at hlb
    unfold dl at h1 hlb
    omega
  repeat (first | refine wp_seq_region ?_ | refine r_nil ?_)
  have hS' : Up (fun k => S k ∧ k ≠ g) w10 := fun i hi => ⟨hS10 i hi, by have := hg.lt; omega⟩
  refine wp_drawnR (R := OneW g 26 [.bool false, .slice none 0 0] [.bool (tst (a / b < 0)), mq]) 8 OneW.trans OneW.drew (by kernel_rfl) (by kernel_rfl) ?_
  apply ob_stepR
  · intro x w1 k1 hd
    refine r_load_all rfl (hgqf.wr k1.1 (by omega)) rfl ?_
    refine r_nil ?_
    exact ob_eqR OneW.refl
  apply ob_stepR
  · intro x w1 k1 hd
    refine r_field rfl ?_
    refine r_nil ?_
    exact ob_eqR OneW.refl
  apply ob_stepR
  · intro x w1 k1 hd
    refine r_load_blk rfl (hgr10.wr k1.1 (by omega)) rfl ?_
    refine r_nil ?_
    exact ob_eqR OneW.refl
  apply ob_stepR
  · intro x w1 k1 hd
    refine r_field rfl ?_
    refine r_nil ?_
    exact ob_eqR OneW.refl
  apply ob_stepR
  · intro x w1 k1 hd
    refine r_load_blk rfl (hgr10.wr k1.1 (by omega)) rfl ?_
    refine r_nil ?_
    exact ob_eqR OneW.refl
  have hr' := hr.apart hg (by decide)
  refine ob_stepR (e := EntR.of (fun v w => NatV (fun k => S k ∧ k ≠ g) 127 .u32 w v (a % b).natAbs) (fun v w w' h k => h.keep (k.1.mono fun i hi => hi.2))) ?_ ?_
  · intro x w1 k1 hd
    refine r_call (clone_c (hS'.to k1.1) (hr'.keep (k1.1.mono fun i hi => hi.2)) hlr) rfl ?_
    rintro v2 w2 ⟨k2, h2⟩
    exact r_nil (ob_ofR (OneW.of k2) h2)
  refine ob_stepR (e := EntR.of (fun v w => IntV (fun k => S k ∧ k ≠ g) 127 .u32 w v (a % b)) (fun v w w' h k => h.keep (k.1.mono fun i hi => hi.2))) ?_ ?_
  · intro x w1 k1 hd
    have h1 : NatV (fun k => S k ∧ k ≠ g) 127 .u32 w1 (x 5) (a % b).natAbs := hd.1
    refine r_build2 rfl rfl rfl h1.one ?_
    exact r_nil (ob_ofR OneW.refl ⟨_, rfl, h1⟩)
  refine ob_stepR (e := EntR.of (fun v w => Blk w g 26 [.bool (tst (a / b < 0)), mq]) (fun v w w' h k => k.2.2 h)) ?_ ?_
  · intro x w1 k1 hd
    rcases k1.2.1 (.inl hg) with hgx | hgx
    · refine r_store2 rfl rfl hgx rfl hq.one ?_
      intro w12 k12 hg12
      exact r_nil (ob_doneR (OneW.wrote k12 hg12) hg12)
    · refine r_store2 rfl rfl hgx rfl hq.one ?_
      intro w12 k12 hg12
      exact r_nil (ob_doneR (OneW.wrote k12 hg12) hg12)
  refine ob_nilR (ob_endR ?_)
  intro x w11 k11 hall
  obtain ⟨m11, hv11, h11⟩ := hall.2.1
  have hg12 : Blk w11 g 26 [.bool (tst (a / b < 0)), mq] := hall.1
  refine r_store2 rfl hv11 (hg2.wr k11.1 (by omega)) rfl h11.one ?_
  intro w13 k13 hg13
  repeat (first | refine r_assign (by conv => (lhs; whnf)) ?_ | refine r_nil ?_ | refine q_then ?_ | refine wp_ret ?_)
  refine end3 rfl (resV_agg (by conv => (lhs; whnf)) (hg12.wr k13 (by omega)) rfl) (resV_agg (by conv => (lhs; whnf)) hg13 rfl) (resV_tmp (by conv => (lhs; whnf))) ⟨_, _, rfl, ?_, ?_, ?_⟩
  · exact (kk.past k11.1 (by omega)).past k13 (by omega)
  · exact ⟨mq, rfl, (hq.wrT k11.1 hg (by decide)).wrT k13 (hg2.wr k11.1 (by omega)) (by decide)⟩
  · exact ⟨m11, rfl, (h11.mono fun i _ hi => hi.1).wrT k13 (hg2.wr k11.1 (by omega)) (by decide)⟩
end Go.Proofs.YtpmnjjmngogkkaaGreatDoor
end

section
namespace Go.Proofs
open Go.Shelf
def Tryz.lays169_ren : Go.Shelf.Ren := ⟨fun | 169 => 140 | n => n, fun | 70 => 170 | 9 => 9 | 0 => 0 | 72 => 172 | 37 => 73 | 127 => 200 | 3 => 3 | 5 => 5 | n => n, fun | n => n⟩
theorem Tryz.lays169 : Go.Proofs.Lays.n169 Tryz.prog Tryz.lays169_ren := {
  mixed := by kernel_rfl
  f169 := Tryz.func140.trans (congrArg some (by kernel_rfl))
  t0 := Tryz.underlying0
  a0 := Tryz.isAgg0
  z0 := Tryz.sizeOf0
  v0 := Tryz.zeroValue0
  t3 := Tryz.underlying3
  a3 := Tryz.isAgg3
  z3 := Tryz.sizeOf3
  v3 := Tryz.zeroValue3
  t9 := Tryz.underlying9
  a9 := Tryz.isAgg9
  z9 := Tryz.sizeOf9
  v9 := Tryz.zeroValue9
  t37 := Tryz.underlying73
  a37 := Tryz.isAgg73
  z37 := Tryz.sizeOf73
  v37 := Tryz.zeroValue73
  t70 := Tryz.underlying170
  a70 := Tryz.isAgg170
  z70 := Tryz.sizeOf170
  v70 := Tryz.zeroValue170
  t72 := Tryz.underlying172
  a72 := Tryz.isAgg172
  z72 := Tryz.sizeOf172
  v72 := Tryz.zeroValue172
  t127 := Tryz.underlying200
  a127 := Tryz.isAgg200
  z127 := Tryz.sizeOf200
  v127 := Tryz.zeroValue200 }
theorem Tryz.Builder_Extra_169 : Builder.Extra Tryz.prog Tryz.lays169_ren := {
  sizeBuilder := by kernel_rfl
  liesBuilder := by kernel_rfl
  t5 := Tryz.underlying5
  a5 := Tryz.isAgg5
  z5 := Tryz.sizeOf5
  v5 := Tryz.zeroValue5
  infoByte := by kernel_rfl
  cellsByte := by kernel_rfl
  sizeByte := by kernel_rfl
  neB5 := by decide }
open Go.RowKit in
/-- (*strings.Builder).String: "String returns the accumulated string.": WHATEVER THE BUILDER HOLDS. (LAID: no walk: one application.) -/
theorem Tryz.Builder_String_any (B b : Nat) (l : List UInt8) (w : World) (h : Lib.IsBuilder 172 5 B b (Lib.byteCells l) w) (hBw : B ≤ w.heap.size) :
    Calls Tryz.prog 140 #[.pointer (some ⟨b, 0, none⟩)] w fun e w' => e = .returned (.string ⟨l.toArray⟩) ∧ Below B w w' := Any.Builder_String_any Tryz.lays169 Tryz.Builder_Extra_169 B b l w h hBw
def Tryz.laysM171_ren : Go.Shelf.Ren := ⟨fun | 171 => 138 | 243 => 173 | 246 => 203 | 283 => 220 | 284 => 221 | 285 => 222 | 286 => 223 | 129 => 231 | 317 => 230 | 318 => 232 | 319 => 233 | 320 => 234 | 337 => 237 | 338 => 238 | n => n, fun | 3 => 3 | 9 => 9 | 2 => 2 | 4 => 4 | 171 => 240 | 0 => 0 | 53 => 117 | 37 => 73 | 5 => 5 | 173 => 243 | 212 => 251 | 51 => 127 | 20 => 20 | 213 => 252 | 46 => 70 | 232 => 261 | 233 => 262 | n => n, fun | 17 => 3 | 18 => 6 | 19 => 7 | n => n⟩
theorem Tryz.laysM171 : Go.Proofs.LaysM.n171 Tryz.prog Tryz.laysM171_ren := {
  mixed := by kernel_rfl
  f129 := Tryz.func231.trans (congrArg some (by kernel_rfl))
  f171 := Tryz.func138.trans (congrArg some (by kernel_rfl))
  f243 := Tryz.func173.trans (congrArg some (by kernel_rfl))
  f246 := Tryz.func203.trans (congrArg some (by kernel_rfl))
  f283 := Tryz.func220.trans (congrArg some (by kernel_rfl))
  f284 := Tryz.func221.trans (congrArg some (by kernel_rfl))
  f285 := Tryz.func222.trans (congrArg some (by kernel_rfl))
  f286 := Tryz.func223.trans (congrArg some (by kernel_rfl))
  f317 := Tryz.func230.trans (congrArg some (by kernel_rfl))
  f318 := Tryz.func232.trans (congrArg some (by kernel_rfl))
  f319 := Tryz.func233.trans (congrArg some (by kernel_rfl))
  f320 := Tryz.func234.trans (congrArg some (by kernel_rfl))
  f337 := Tryz.func237.trans (congrArg some (by kernel_rfl))
  f338 := Tryz.func238.trans (congrArg some (by kernel_rfl))
  t0 := Tryz.underlying0
  a0 := Tryz.isAgg0
  z0 := Tryz.sizeOf0
  v0 := Tryz.zeroValue0
  t2 := Tryz.underlying2
  a2 := Tryz.isAgg2
  z2 := Tryz.sizeOf2
  v2 := Tryz.zeroValue2
  t3 := Tryz.underlying3
  a3 := Tryz.isAgg3
  z3 := Tryz.sizeOf3
  v3 := Tryz.zeroValue3
  t4 := Tryz.underlying4
  a4 := Tryz.isAgg4
  z4 := Tryz.sizeOf4
  v4 := Tryz.zeroValue4
  t5 := Tryz.underlying5
  a5 := Tryz.isAgg5
  z5 := Tryz.sizeOf5
  v5 := Tryz.zeroValue5
  t9 := Tryz.underlying9
  a9 := Tryz.isAgg9
  z9 := Tryz.sizeOf9
  v9 := Tryz.zeroValue9
  t20 := Tryz.underlying20
  a20 := Tryz.isAgg20
  z20 := Tryz.sizeOf20
  v20 := Tryz.zeroValue20
  t37 := Tryz.underlying73
  a37 := Tryz.isAgg73
  z37 := Tryz.sizeOf73
  v37 := Tryz.zeroValue73
  t46 := Tryz.underlying70
  a46 := Tryz.isAgg70
  z46 := Tryz.sizeOf70
  v46 := Tryz.zeroValue70
  t51 := Tryz.underlying127
  a51 := Tryz.isAgg127
  z51 := Tryz.sizeOf127
  v51 := Tryz.zeroValue127
  t53 := Tryz.underlying117
  a53 := Tryz.isAgg117
  z53 := Tryz.sizeOf117
  v53 := Tryz.zeroValue117
  t171 := Tryz.underlying240
  a171 := Tryz.isAgg240
  z171 := Tryz.sizeOf240
  v171 := Tryz.zeroValue240
  t173 := Tryz.underlying243
  a173 := Tryz.isAgg243
  z173 := Tryz.sizeOf243
  v173 := Tryz.zeroValue243
  t212 := Tryz.underlying251
  a212 := Tryz.isAgg251
  z212 := Tryz.sizeOf251
  v212 := Tryz.zeroValue251
  t213 := Tryz.underlying252
  a213 := Tryz.isAgg252
  z213 := Tryz.sizeOf252
  t232 := Tryz.underlying261
  a232 := Tryz.isAgg261
  z232 := Tryz.sizeOf261
  v232 := Tryz.zeroValue261
  t233 := Tryz.underlying262
  a233 := Tryz.isAgg262
  z233 := Tryz.sizeOf262
  v233 := Tryz.zeroValue262
  g17 := by kernel_rfl
  g18 := by kernel_rfl
  g19 := by kernel_rfl
  i0 := by kernel_rfl
  i2 := by kernel_rfl
  i3 := by kernel_rfl
  i4 := by kernel_rfl
  i5 := by kernel_rfl
  i9 := by kernel_rfl
  i20 := by kernel_rfl
  i37 := by kernel_rfl
  i46 := by kernel_rfl
  i51 := by kernel_rfl
  i53 := by kernel_rfl
  i171 := by kernel_rfl
  i173 := by kernel_rfl
  i212 := by kernel_rfl
  i232 := by kernel_rfl
  i233 := by kernel_rfl
  m17 := by kernel_rfl
  m18 := by kernel_rfl
  m19 := by kernel_rfl }
open Go.RowKit Go.Sort Go.Lib in
/-- strconv.Itoa: "Itoa is equivalent to FormatInt(int64(i), 10).": i's DECIMAL NUMERAL ('Lib.itoa': a '-' where i is negative, then the digits), FOR EVERY int. The world behind the call: the world before it, new blocks behind the heap (the library's 'var a [24]byte'), draws. (LAID: no walk: one application.) -/
theorem Tryz.strconv_Itoa (n : Int) (h0 : -9223372036854775808 ≤ n) (h1 : n ≤ 9223372036854775807) (w : World) (htab : Lib.TabIs Tryz.prog w "internal/strconv.uint64pow10" .u64 Lib.pow10Tab) :
    Calls Tryz.prog 138 #[.int .i64 n] w fun e w' => e = .returned (.string ⟨(Lib.itoa n).toArray⟩) ∧ ∃ k os, w' = grow (w.drewN k) os := Any.strconv_Itoa Tryz.laysM171 n h0 h1 w htab
def Tryz.lays105_ren : Go.Shelf.Ren := ⟨fun | 105 => 139 | 212 => 174 | 99 => 175 | 165 => 176 | 166 => 137 | 170 => 177 | 169 => 140 | 263 => 204 | 264 => 205 | 206 => 187 | 240 => 172 | 241 => 206 | 276 => 202 | 277 => 224 | n => n, fun | 9 => 9 | 3 => 3 | 4 => 4 | 20 => 20 | 0 => 0 | 46 => 70 | 109 => 197 | 5 => 5 | 72 => 172 | 76 => 173 | 51 => 127 | 146 => 225 | 53 => 117 | 148 => 227 | 70 => 170 | 37 => 73 | 75 => 145 | 127 => 200 | 164 => 222 | 80 => 36 | n => n, fun | n => n⟩
theorem Tryz.lays105 : Go.Proofs.Lays.n105 Tryz.prog Tryz.lays105_ren := {
  mixed := by kernel_rfl
  f99 := Tryz.func175.trans (congrArg some (by kernel_rfl))
  f105 := Tryz.func139.trans (congrArg some (by kernel_rfl))
  f165 := Tryz.func176.trans (congrArg some (by kernel_rfl))
  f166 := Tryz.func137.trans (congrArg some (by kernel_rfl))
  f169 := Tryz.func140.trans (congrArg some (by kernel_rfl))
  f170 := Tryz.func177.trans (congrArg some (by kernel_rfl))
  f206 := Tryz.func187.trans (congrArg some (by kernel_rfl))
  f212 := Tryz.func174.trans (congrArg some (by kernel_rfl))
  f240 := Tryz.func172.trans (congrArg some (by kernel_rfl))
  f241 := Tryz.func206.trans (congrArg some (by kernel_rfl))
  f263 := Tryz.func204.trans (congrArg some (by kernel_rfl))
  f264 := Tryz.func205.trans (congrArg some (by kernel_rfl))
  f276 := Tryz.func202.trans (congrArg some (by kernel_rfl))
  f277 := Tryz.func224.trans (congrArg some (by kernel_rfl))
  t0 := Tryz.underlying0
  a0 := Tryz.isAgg0
  z0 := Tryz.sizeOf0
  v0 := Tryz.zeroValue0
  t3 := Tryz.underlying3
  a3 := Tryz.isAgg3
  z3 := Tryz.sizeOf3
  v3 := Tryz.zeroValue3
  t4 := Tryz.underlying4
  a4 := Tryz.isAgg4
  z4 := Tryz.sizeOf4
  v4 := Tryz.zeroValue4
  t5 := Tryz.underlying5
  a5 := Tryz.isAgg5
  z5 := Tryz.sizeOf5
  v5 := Tryz.zeroValue5
  t9 := Tryz.underlying9
  a9 := Tryz.isAgg9
  z9 := Tryz.sizeOf9
  v9 := Tryz.zeroValue9
  t20 := Tryz.underlying20
  a20 := Tryz.isAgg20
  z20 := Tryz.sizeOf20
  v20 := Tryz.zeroValue20
  t37 := Tryz.underlying73
  a37 := Tryz.isAgg73
  z37 := Tryz.sizeOf73
  v37 := Tryz.zeroValue73
  t46 := Tryz.underlying70
  a46 := Tryz.isAgg70
  z46 := Tryz.sizeOf70
  v46 := Tryz.zeroValue70
  t51 := Tryz.underlying127
  a51 := Tryz.isAgg127
  z51 := Tryz.sizeOf127
  v51 := Tryz.zeroValue127
  t53 := Tryz.underlying117
  a53 := Tryz.isAgg117
  z53 := Tryz.sizeOf117
  v53 := Tryz.zeroValue117
  t70 := Tryz.underlying170
  a70 := Tryz.isAgg170
  z70 := Tryz.sizeOf170
  v70 := Tryz.zeroValue170
  t72 := Tryz.underlying172
  a72 := Tryz.isAgg172
  z72 := Tryz.sizeOf172
  v72 := Tryz.zeroValue172
  t75 := Tryz.underlying145
  a75 := Tryz.isAgg145
  z75 := Tryz.sizeOf145
  v75 := Tryz.zeroValue145
  t76 := Tryz.underlying173
  a76 := Tryz.isAgg173
  z76 := Tryz.sizeOf173
  v76 := Tryz.zeroValue173
  t109 := Tryz.underlying197
  a109 := Tryz.isAgg197
  z109 := Tryz.sizeOf197
  v109 := Tryz.zeroValue197
  t127 := Tryz.underlying200
  a127 := Tryz.isAgg200
  z127 := Tryz.sizeOf200
  v127 := Tryz.zeroValue200
  t146 := Tryz.underlying225
  a146 := Tryz.isAgg225
  z146 := Tryz.sizeOf225
  v146 := Tryz.zeroValue225
  t148 := Tryz.underlying227
  a148 := Tryz.isAgg227
  z148 := Tryz.sizeOf227
  v148 := Tryz.zeroValue227
  t164 := Tryz.underlying222
  a164 := Tryz.isAgg222
  z164 := Tryz.sizeOf222
  v164 := Tryz.zeroValue222 }
theorem Tryz.Builder_Extra_105 : Builder.Extra Tryz.prog Tryz.lays105_ren := {
  sizeBuilder := by kernel_rfl
  liesBuilder := by kernel_rfl
  t5 := Tryz.underlying5
  a5 := Tryz.isAgg5
  z5 := Tryz.sizeOf5
  v5 := Tryz.zeroValue5
  infoByte := by kernel_rfl
  cellsByte := by kernel_rfl
  sizeByte := by kernel_rfl
  neB5 := by decide }
open Go.RowKit Go.Lib in
/-- **strings.Repeat: count ≥ 0, the result within one allocation: count copies of s.** (LAID: no walk: one application.) -/
theorem Tryz.strings_Repeat (s : ByteArray) (c : Nat) (w : World) (hc : c ≤ 9223372036854775807) (hlen : s.size * c ≤ 140737488355328) :
    Calls Tryz.prog 139 #[.string s, .int .i64 c] w fun e w' => e = .returned (.string ⟨(Lib.repeatL s.data.toList c).toArray⟩) ∧ Below w.heap.size w w' := Any.strings_Repeat Tryz.lays105 Tryz.Builder_Extra_105 s c w hc hlen
end Go.Proofs
end

section
set_option linter.unusedVariables false
set_option linter.unusedSimpArgs false
namespace Go.Proofs.YtpmnjjmngogkkaaGreatDoor
open Go Go.RowKit
/-- The library's table of powers of ten lies as it was laid. -/
def Tab (w : World) : Prop := Lib.TabIs Tryz.prog w "internal/strconv.uint64pow10" .u64 Lib.pow10Tab
theorem Tab.to {w w' : World} (h : Tab w) (k : Ext w w') : Tab w' := by
  unfold Tab Lib.TabIs World.var? at *
  cases hg : (Tryz.prog).globalNamed "internal/strconv.uint64pow10" with
  | none => simp [hg] at h
  | some g =>
    simp only [hg, Option.bind_eq_bind, Option.bind_some] at h ⊢
    cases hb : w.heap[g]? with
    | none => rw [hb] at h; cases h
    | some o =>
      rw [k.block g (Array.getElem?_eq_some_iff.1 hb).1 trivial]
      exact h
theorem ext_grow {w : World} {k : Nat} {os : Array Obj} : Ext w (Sort.grow (w.drewN k) os) := by
  refine ⟨rfl, rfl, rfl, ?_, fun i hi _ => ?_⟩
  · simp [Sort.grow, World.drewN]
  · exact Sort.heap_grow_old (w.drewN k) os (by simpa [World.drewN] using hi)
theorem itoa_c {w : World} (ht : Tab w) {n : Nat} (hn : n ≤ 9223372036854775807) :
    Gives Tryz.prog 138 [.int .i64 (n : Int)] w fun v' w' => v' = strV (Lib.decDigits n) ∧ Ext w w' :=
  Calls.mono (Tryz.strconv_Itoa (n : Int) (by omega) (by omega) w ht) fun e w' ⟨he, k, os, hw⟩ => ⟨_, he, by rw [Lib.itoa_nonneg], hw ▸ ext_grow⟩
theorem repeat_zero (c : Nat) : Lib.repeatL [48] c = List.replicate c 48 := by
  induction c with
  | zero => rfl
  | succ c ih =>
    rw [List.replicate_succ, ← ih]
    rfl
theorem repeat_c {w : World} {c : Nat} (hc : c ≤ 1000000) :
    Gives Tryz.prog 139 [strV [48], .int .i64 (c : Int)] w fun v' w' => v' = strV (List.replicate c 48) ∧ Ext w w' :=
  Calls.mono (Tryz.strings_Repeat ⟨[48].toArray⟩ c w (by omega) (by show 1 * c ≤ _; omega)) fun e w' ⟨he, hw⟩ => ⟨_, he, by show Value.string ⟨(Lib.repeatL [48] c).toArray⟩ = _; rw [repeat_zero], .of_below hw⟩
theorem builtString_c {B b : Nat} {l : List UInt8} {w : World} (h : BuiltF B b l w) (hBw : B ≤ w.heap.size) :
    Gives Tryz.prog 140 [.pointer (some ⟨b, 0, none⟩)] w fun v' w' => v' = strV l ∧ Below B w w' :=
  Calls.mono (Tryz.Builder_String_any B b l w h hBw) fun e w' ⟨he, hw⟩ => ⟨_, he, rfl, hw⟩
section rules
variable {P : Program} {n : Nat} {Q : Post} {ρ : Fr} {w : World} {all rest : List Oper} {d : Tmp} {ty : TypeId} {pos : String} {aft : Array Edge}
theorem r_lenS {t : TypeId} [st : StrT P t] {x : Operand} {l : List UInt8} (hv : ev ρ x = strV l)
    (h : WpR P n all Q rest (upd ρ d (.int .i64 (l.length : Nat))) w) : WpR P n all Q (⟨some d, .call ⟨.builtin .len, #[x], #[t]⟩, ty, pos, aft, none⟩ :: rest) ρ w := by
  refine r_len_str hv ?_
  have e : (⟨l.toArray⟩ : ByteArray).size = l.length := by show l.toArray.size = _; simp
  rw [e]
  exact h
theorem r_load_digI {T : TypeId} {b : Nat} {z : Value} [ti : TyI P T 1 b z false] {x : Operand} {S : Nat → Prop} {v : Value} {j : Nat} {l : List Nat} {k : IntKind} (i : Nat)
    (hx : ev ρ x = .pointer (some (adr v j))) (hj : j = i) (hr : Sl S T k w v l) (hi : i < l.length) (h : WpR P n all Q rest (upd ρ d (.int k (l.getD i 0 : Nat))) w) :
    WpR P n all Q (⟨some d, .load T x, ty, pos, aft, none⟩ :: rest) ρ w := by
  subst hj
  exact r_load_dig hx hr hi h
end rules
theorem BuiltF.to {B b : Nat} {l : List UInt8} {w w' : World} (h : BuiltF B b l w) (k : Ext w w') : BuiltF B b l w' := by
  have one : ∀ p, Lib.BuilderAt 172 5 B b p (Lib.byteCells l) w → Lib.BuilderAt 172 5 B b p (Lib.byteCells l) w' := by
    rintro p ⟨hB, v, hb, hown, hne⟩
    exact ⟨hB, v, (k.block b (Array.getElem?_eq_some_iff.1 hb).1 trivial).trans hb, own_to hown k, hne⟩
  exact h.imp (one _) (one _)
theorem ext_below {w w1 w2 : World} {g : Nat} (h : Ext w w1) (hg : w.heap.size ≤ g) (k : Below g w1 w2) : Ext w w2 :=
  ⟨k.os.trans h.os, k.tape.trans h.tape, k.output.trans h.output, Nat.le_trans h.size k.size, fun i hi _ => (k.block i (by omega)).trans (h.block i hi trivial)⟩
theorem div_pos_dl {a k : Nat} (h : k < dl a) : 0 < a / 1000000000 ^ k := by
  have hc := canon_dg a
  have h1 := pow_le_of_canon hc (by intro e; unfold dl at h; rw [e] at h; simp at h)
  rw [nval_dg] at h1
  have h2 : 1000000000 ^ k ≤ 1000000000 ^ ((dg a).length - 1) := Nat.pow_le_pow_right (by omega) (by unfold dl at h; omega)
  exact Nat.div_pos (by omega) (Nat.pow_pos (by omega))
theorem div_step (a k : Nat) : a / 1000000000 ^ k = (dg a).getD k 0 + 1000000000 * (a / 1000000000 ^ (k + 1)) := by
  rw [dg_digit, Nat.pow_succ, ← Nat.div_div_eq_div_mul]
  omega
theorem div_top {a : Nat} (h : 0 < dl a) : a / 1000000000 ^ (dl a - 1) = (dg a).getD (dl a - 1) 0 := by
  have h1 := div_step a (dl a - 1)
  rw [show dl a - 1 + 1 = dl a by omega, Nat.div_eq_of_lt (lt_pow_dl a)] at h1
  omega
theorem nDigits_div (a k : Nat) (h : 0 < dl a) : Lib.nDigits (a / 1000000000 ^ k) ≤ 9 * dl a := by
  refine nDigits_le (by omega) ?_
  have h1 := lt_pow_dl a
  rw [pow_nine] at h1
  exact Nat.lt_of_le_of_lt (Nat.div_le_self ..) h1
theorem mstr_c {S : Nat → Prop} {w : World} {va : Value} {a : Nat} (ht : Tab w) (ha : NatV S 127 .u32 w va a) (hl : dl a ≤ 1099511627776) :
    Gives Tryz.prog 84 [va] w fun v' w' => v' = strV (Lib.decDigits a) ∧ Ext w w' := by
  have hdl : dl a = (dg a).length := rfl
  rw [hdl] at hl
  refine gives_of Tryz.func84 rfl rfl rfl ?_
  repeat (first | refine wp_seq_region ?_ | refine wp_seq_seq ?_ | refine wp_region ?_ | refine r_move (by conv => (lhs; whnf)) ?_ | refine r_assign (by conv => (lhs; whnf)) ?_ | refine r_nil ?_ | refine q_then ?_ | refine r_len (by conv => (lhs; whnf)) (by assumption) ?_ | refine r_eql rfl rfl ?_)
  try refine wp_seq_cond ?_
  refine wp_cond_dec rfl ?_ ?_ <;> intro hc
  · repeat (first | refine wp_seq_region ?_ | refine wp_region ?_ | refine r_assign (by conv => (lhs; whnf)) ?_ | refine r_nil ?_ | refine q_then ?_ | refine wp_ret ?_ | refine q_then_ret ?_)
    refine end_tmp rfl (by conv => (lhs; whnf)) ⟨?_, .refl⟩
    have h0 : a = 0 := dl_eq_zero.1 (by omega)
    subst h0
    rw [Lib.decDigits_one (by decide)]
    rfl
  · repeat (first | refine wp_seq_region ?_ | refine wp_region ?_ | refine wp_skip ?_)
    refine r_alloc (cs := [.pointer none, .slice none 0 0]) rfl ?_
    intro w1 g k1 hg hgs
    have hgl := hg.lt
    have ha0 := ha
    replace ha := ha.to k1
    repeat (first | refine wp_seq_region ?_ | refine wp_region ?_ | refine r_move (by conv => (lhs; whnf)) ?_ | refine r_nil ?_ | refine r_len (by conv => (lhs; whnf)) (by assumption) ?_ | refine r_subI rfl rfl (by omega) (by omega) ?_ | refine r_index (by conv => (lhs; whnf)) rfl (by assumption) (by omega) (by omega) ?_)
    refine r_load_digI ((dg a).length - 1) rfl (by omega) ha (by omega) ?_
    have hd := dg_lt a ((dg a).length - 1)
    repeat (first | refine r_conv rfl (wrap_i64 (by omega) (by omega)) ?_)
    refine r_call (itoa_c (ht.to k1) (by omega)) rfl ?_
    rintro v2 w2 ⟨rfl, k2⟩
    have hb0 : BuiltF g g [] w2 := .inl ⟨Nat.le_refl g, _, (hg.to k2), own_nil, by simp [Value.ownBlock]⟩
    have hk2 := k2.size
    have hn9 := nDigits_limb hd
    refine r_call (writeString_c hb0 (by rw [List.length_nil, Lib.decDigits_length]; omega) (by omega)) rfl ?_
    rintro v3 w3 ⟨hb3, k3⟩
    rw [List.nil_append, ← hdl, ← div_top (by omega)] at hb3
    have hk3 := k3.size
    have kk : Ext w w3 := ext_below (k1.trans k2) hgs k3
    repeat (first | refine wp_seq_region ?_ | refine wp_seq_seq ?_ | refine wp_region ?_ | refine r_move (by conv => (lhs; whnf)) ?_ | refine r_assign (by conv => (lhs; whnf)) ?_ | refine r_nil ?_ | refine q_then ?_ | refine r_len (by conv => (lhs; whnf)) (by assumption) ?_ | refine r_subI rfl rfl (by omega) (by omega) ?_)
    try refine wp_seq_block ?_
    refine wp_for [(4, 5), (21, 37)] (fun k ρ w' => ρ 4 = .int .i64 ((k : Int) - 1) ∧ k < dl a ∧ BuiltF g g (Lib.decDigits (a / 1000000000 ^ k)) w' ∧ Ext w w' ∧ g < w'.heap.size) (dl a - 1) ?_ ?_
    · exact ⟨congrArg (Value.int .i64) (by omega), by omega, hb3, kk, by omega⟩
    rintro k u w4 ⟨h4, hk, hb4, k4, hg4⟩
    refine wp_learn 4 h4 ?_
    repeat (first | refine wp_seq_region ?_ | refine wp_seq_seq ?_ | refine wp_region ?_ | refine r_move (by conv => (lhs; whnf)) ?_ | refine r_nil ?_ | refine q_then ?_ | refine r_geq rfl rfl ?_)
    try refine wp_seq_cond ?_
    refine wp_cond_dec rfl ?_ ?_ <;> intro hc2
    · have ha4 := ha0.to k4
      clear ha
      obtain ⟨i, rfl⟩ : ∃ i, k = i + 1 := ⟨k - 1, by omega⟩
      have hd4 := dg_lt a i
      have hn4 := nDigits_limb hd4
      have hnd := nDigits_div a (i + 1) (by omega)
      repeat (first | refine wp_seq_region ?_ | refine wp_seq_bseq ?_ | refine wp_region ?_ | refine r_move (by conv => (lhs; whnf)) ?_ | refine wp_block_seq ?_ | refine wp_skip ?_ | refine r_index (by conv => (lhs; whnf)) rfl (by assumption) (by omega) (by omega) ?_)
      refine r_load_digI i rfl (by omega) ha4 (by omega) ?_
      repeat (first | refine r_conv rfl (wrap_i64 (by omega) (by omega)) ?_)
      refine r_call (itoa_c (ht.to k4) (by omega)) rfl ?_
      rintro v5 w5 ⟨rfl, k5⟩
      have hlen := Lib.decDigits_length ((dg a).getD i 0)
      repeat (first | refine r_lenS rfl ?_ | refine wp_region ?_ | refine r_move (by conv => (lhs; whnf)) ?_ | refine r_assign (by conv => (lhs; whnf)) ?_ | refine r_nil ?_ | refine r_subI rfl rfl (by omega) (by omega) ?_)
      refine r_call (repeat_c (c := 9 - Lib.nDigits ((dg a).getD i 0)) (by omega)) ?_ ?_
      · exact args2 rfl (congrArg (Value.int .i64) (by omega))
      rintro v6 w6 ⟨rfl, k6⟩
      repeat (first | refine r_move (by conv => (lhs; whnf)) ?_)
      refine r_cat rfl rfl (by rw [List.length_replicate, Lib.decDigits_length]; omega) ?_
      have hb6 : BuiltF g g (Lib.decDigits (a / 1000000000 ^ (i + 1))) w6 := hb4.to (k5.trans k6)
      have hk5 := k5.size
      have hk6 := k6.size
      refine r_call (writeString_c hb6 (by rw [List.length_append, List.length_replicate, Lib.decDigits_length, Lib.decDigits_length]; omega) (by omega)) rfl ?_
      rintro v7 w7 ⟨hb7, k7⟩
      have hk7 := k7.size
      repeat (first | refine wp_region ?_ | refine r_move (by conv => (lhs; whnf)) ?_ | refine r_assign (by conv => (lhs; whnf)) ?_ | refine r_nil ?_ | refine q_then ?_ | refine r_subI rfl rfl (by omega) (by omega) ?_)
      refine ⟨by (repeat (first | refine agree_upd rfl ?_ | exact agree_over | refine agree_sub rfl ?_ | exact agree_refl)), i, by omega, congrArg (Value.int .i64) (by omega), by omega, ?_, ext_below ((k4.trans k5).trans k6) hgs k7, by omega⟩
      rw [div_step a i, dec_limb (div_pos_dl (by omega)) hd4]
      exact hb7
    · repeat (first | refine wp_seq_region ?_ | refine wp_region ?_ | refine wp_exit ?_)
      refine r_call (builtString_c hb4 (by omega)) rfl ?_
      rintro v5 w5 ⟨rfl, k5⟩
      repeat (first | refine r_assign (by conv => (lhs; whnf)) ?_ | refine r_nil ?_ | refine q_then ?_ | refine wp_ret ?_)
      refine end_tmp rfl (by conv => (lhs; whnf)) ⟨?_, ext_below k4 hgs k5⟩
      obtain rfl : k = 0 := by omega
      simp
theorem istr_c {S : Nat → Prop} {w : World} {va : Value} {a : Int} (ht : Tab w) (ha : IntV S 127 .u32 w va a) (hl : zl a ≤ 1099511627776) :
    Gives Tryz.prog 59 [va] w fun v' w' => v' = strV (Lib.itoa a) ∧ Ext w w' := by
  obtain ⟨ma, rfl, ha⟩ := ha
  have hn : Lib.nDigits a.natAbs ≤ 9 * 1099511627776 := by
    by_cases h0 : a.natAbs = 0
    · rw [h0, Lib.nDigits_small (by decide)]; decide
    · have := nDigits_dl (n := a.natAbs) (by omega)
      unfold zl at hl
      omega
  refine gives_of Tryz.func59 rfl rfl rfl ?_
  repeat (first | refine wp_seq_region ?_ | refine wp_region ?_)
  refine r_box (cs := [.bool (tst (a < 0)), ma]) (by conv => (lhs; whnf)) rfl ?_
  intro w1 g k1 hg hgs
  repeat (first | refine r_load_blk rfl hg rfl ?_ | refine wp_seq_region ?_ | refine wp_seq_seq ?_ | refine wp_region ?_ | refine r_assign (by conv => (lhs; whnf)) ?_ | refine r_nil ?_ | refine q_then ?_ | refine r_field rfl ?_)
  try refine wp_seq_cond ?_
  refine wp_cond_dec rfl ?_ ?_ <;> intro hc
  · repeat (first | refine r_load_blk rfl hg rfl ?_ | refine wp_seq_region ?_ | refine wp_region ?_ | refine r_field rfl ?_)
    refine r_call (mstr_c (ht.to k1) (ha.to k1) hl) rfl ?_
    rintro v2 w2 ⟨rfl, k2⟩
    refine r_cat (a := [45]) rfl rfl (by rw [Lib.decDigits_length]; simp; omega) ?_
    repeat (first | refine r_assign (by conv => (lhs; whnf)) ?_ | refine r_nil ?_ | refine q_then ?_ | refine wp_ret ?_ | refine q_then_ret ?_)
    exact end_tmp rfl (by conv => (lhs; whnf)) ⟨by unfold Lib.itoa; rw [if_pos hc]; rfl, k1.trans k2⟩
  · repeat (first | refine r_load_blk rfl hg rfl ?_ | refine wp_seq_region ?_ | refine wp_region ?_ | refine wp_skip ?_ | refine r_field rfl ?_)
    refine r_call (mstr_c (ht.to k1) (ha.to k1) hl) rfl ?_
    rintro v2 w2 ⟨rfl, k2⟩
    repeat (first | refine r_assign (by conv => (lhs; whnf)) ?_ | refine r_nil ?_ | refine q_then ?_ | refine wp_ret ?_)
    exact end_tmp rfl (by conv => (lhs; whnf)) ⟨by unfold Lib.itoa; rw [if_neg hc, show a.natAbs = a.toNat by omega], k1.trans k2⟩
end Go.Proofs.YtpmnjjmngogkkaaGreatDoor
end

section
set_option linter.unusedVariables false
set_option linter.unusedSimpArgs false
namespace Go.Proofs.YtpmnjjmngogkkaaGreatDoor
open Go Go.RowKit
section rules
variable {P : Program} {n : Nat} {Q : Post} {ρ : Fr} {w : World} {all rest : List Oper} {d : Tmp} {ty : TypeId} {pos : String} {aft : Array Edge}
/-- A part of a block as one value. -/
theorem r_load_part {t : TypeId} {s b : Nat} {z : Value} [ti : TyI P t s b z true] {x : Operand} {g o : Nat} {T : TypeId} {cs us : List Value}
    (hx : ev ρ x = .pointer (some ⟨g, o, none⟩)) (hb : Blk w g T cs) (hu : (cs.drop o).take s = us) (hs : us.length = s) (h : WpR P n all Q rest (upd ρ d (.agg us.toArray)) w) :
    WpR P n all Q (⟨some d, .load t x, ty, pos, aft, none⟩ :: rest) ρ w := by
  subst hu
  refine r_load hx (load_agg ti hs fun i hi => ?_) h
  have h1 : ((cs.drop o).take s)[i]? = cs[o + i]? := by
    rw [List.getElem?_take, if_pos (by omega), List.getElem?_drop]
  rw [h1]
  rw [hs] at hi
  have hl : o + i < cs.length := by
    rw [List.length_take, List.length_drop] at hs
    omega
  rw [List.getElem?_eq_getElem hl]
  exact hb.cell (List.getElem?_eq_getElem hl)
theorem r_build3 {d : Tmp} {T : TypeId} {bb : Nat} {z0 z1 z2 : Value} [ti : TyI P T 3 bb (.agg #[z0, z1, z2]) true] [st : StcT P T [(0, 2), (2, 1)]]
    {x y : Operand} {a b c : Value} (hx : ev ρ x = .agg #[a, b]) (hy : ev ρ y = c) (h1 : c.oneCell' = true)
    (h : WpR P n all Q rest (upd ρ d (.agg #[a, b, c])) w) : WpR P n all Q (⟨some d, .build T #[(0, x), (1, y)], ty, pos, aft, none⟩ :: rest) ρ w :=
  r_build (parts := [(0, x), (1, y)]) (zs := [z0, z1, z2]) (cs := [a, b, c]) (vs := [(0, .agg #[a, b]), (1, c)]) rfl (by rw [← hx, ← hy]; rfl)
    (fill_two rfl (by simp) (fill_one rfl h1 (by simp) fill_nil)) h
theorem r_build2of3 {d : Tmp} {T : TypeId} {bb : Nat} {z0 z1 z2 : Value} [ti : TyI P T 3 bb (.agg #[z0, z1, z2]) true] [st : StcT P T [(0, 2), (2, 1)]]
    {x : Operand} {a b : Value} (hx : ev ρ x = .agg #[a, b])
    (h : WpR P n all Q rest (upd ρ d (.agg #[a, b, z2])) w) : WpR P n all Q (⟨some d, .build T #[(0, x)], ty, pos, aft, none⟩ :: rest) ρ w :=
  r_build (parts := [(0, x)]) (zs := [z0, z1, z2]) (cs := [a, b, z2]) (vs := [(0, .agg #[a, b])]) rfl (by rw [← hx]; rfl) (fill_two rfl (by simp) fill_nil) h
theorem ones3 {a b c : Value} (h1 : a.oneCell' = true) (h2 : b.oneCell' = true) (h3 : c.oneCell' = true) : ∀ v ∈ [a, b, c], v.oneCell' = true := fun v hv => by
  simp only [List.mem_cons, List.not_mem_nil, or_false] at hv
  rcases hv with rfl | rfl | rfl <;> assumption
theorem r_store3 {t : TypeId} {bb : Nat} {z : Value} {agg : Bool} [ti : TyI P t 3 bb z agg] {x y : Operand} {g : Nat} {T : TypeId} {a b c : Value} {cs : List Value}
    (hx : ev ρ x = .pointer (some ⟨g, 0, none⟩)) (hy : ev ρ y = .agg #[a, b, c]) (hb : Blk w g T cs) (hl : cs.length = 3) (h1 : a.oneCell' = true) (h2 : b.oneCell' = true) (h3 : c.oneCell' = true)
    (h : ∀ w', Wrt g w w' → Blk w' g T [a, b, c] → WpR P n all Q rest ρ w') : WpR P n all Q (⟨none, .store t x y, ty, pos, aft, none⟩ :: rest) ρ w :=
  r_store_all (us := [a, b, c]) hx hy rfl rfl hb hl (ones3 h1 h2 h3) h
end rules
/-- The denominator, as it is kept. -/
def bot (q : Rat) : Nat := if q.den = 1 then 0 else q.den
/-- v is the fraction q. -/
def RatV (S : Nat → Prop) (w : World) (v : Value) (q : Rat) : Prop :=
  ∃ m b, v = .agg #[.bool (tst (q.num < 0)), m, b] ∧ NatV S 127 .u32 w m q.num.natAbs ∧ NatV S 127 .u32 w b (bot q)
theorem RatV.keep {S : Nat → Prop} {w w' : World} {v : Value} {q : Rat} (h : RatV S w v q) (k : Keeps S w w') : RatV S w' v q := let ⟨m, b, h1, h2, h3⟩ := h; ⟨m, b, h1, h2.keep k, h3.keep k⟩
theorem RatV.to {S : Nat → Prop} {w w' : World} {v : Value} {q : Rat} (h : RatV S w v q) (k : Ext w w') : RatV S w' v q := h.keep (.of k)
theorem RatV.mono {S S' : Nat → Prop} {w : World} {v : Value} {q : Rat} (h : RatV S w v q) (hs : ∀ k, k < w.heap.size → S k → S' k) : RatV S' w v q := let ⟨m, b, h1, h2, h3⟩ := h; ⟨m, b, h1, h2.mono hs, h3.mono hs⟩
def ratE (S : Nat → Prop) (q : Rat) : Ent := Ent.of (fun v w => RatV S w v q) fun v w w' h kk => h.to kk
/-- The sizes of a fraction's parts. -/
abbrev rl (q : Rat) (n : Nat) : Prop := dl q.num.natAbs ≤ n ∧ dl q.den ≤ n
theorem den_c {S : Nat → Prop} {w : World} {v : Value} {q : Rat} (hS : Up S w) (h : RatV S w v q) :
    Gives Tryz.prog 115 [v] w fun v' w' => Ext w w' ∧ NatV S 127 .u32 w' v' q.den := by
  obtain ⟨m, b, rfl, hm, hb⟩ := h
  have hl : (dg (bot q)).length = 0 ↔ q.den = 1 := by
    have h1 := @dl_eq_zero (bot q)
    unfold dl at h1
    rw [h1]
    unfold bot
    have := q.den_pos
    split <;> omega
  refine gives_of Tryz.func115 rfl rfl rfl ?_
  repeat (first | refine wp_seq_region ?_ | refine wp_region ?_)
  refine r_box (cs := [.bool (tst (q.num < 0)), m, b]) (by conv => (lhs; whnf)) rfl ?_
  intro w1 g k1 hg hgs
  replace hb := hb.to k1
  repeat (first | refine r_load_blk rfl hg rfl ?_ | refine wp_seq_region ?_ | refine wp_seq_seq ?_ | refine wp_region ?_ | refine r_assign (by conv => (lhs; whnf)) ?_ | refine r_nil ?_ | refine q_then ?_ | refine r_len (by conv => (lhs; whnf)) (by assumption) ?_ | refine r_eql rfl rfl ?_ | refine r_field rfl ?_)
  try refine wp_seq_cond ?_
  refine wp_cond_dec rfl ?_ ?_ <;> intro hc
  · repeat (first | refine wp_seq_region ?_ | refine wp_region ?_)
    refine r_call (one_c (hS.to k1)) rfl ?_
    rintro v2 w2 ⟨k2, h2⟩
    repeat (first | refine r_assign (by conv => (lhs; whnf)) ?_ | refine r_nil ?_ | refine q_then ?_ | refine wp_ret ?_ | refine q_then_ret ?_)
    refine end_tmp rfl (by conv => (lhs; whnf)) ⟨k1.trans k2, ?_⟩
    rw [hl.1 (by omega)]
    exact h2
  · repeat (first | refine r_load_blk rfl hg rfl ?_ | refine wp_seq_region ?_ | refine wp_region ?_ | refine r_assign (by conv => (lhs; whnf)) ?_ | refine r_nil ?_ | refine q_then ?_ | refine wp_ret ?_ | refine wp_skip ?_ | refine r_field rfl ?_)
    refine end_tmp rfl (by conv => (lhs; whnf)) ⟨k1, ?_⟩
    have h1 : bot q = q.den := by unfold bot; rw [if_neg (fun h => hc (by have := hl.2 h; omega))]
    rw [h1] at hb
    exact hb
theorem rden_c {S : Nat → Prop} {w : World} {v : Value} {q : Rat} (hS : Up S w) (h : RatV S w v q) :
    Gives Tryz.prog 64 [v] w fun v' w' => Ext w w' ∧ IntV S 127 .u32 w' v' (q.den : Int) := by
  have h0 := h
  obtain ⟨m, b, rfl, hm, hb⟩ := h
  refine gives_of Tryz.func64 rfl rfl rfl ?_
  repeat (first | refine wp_seq_region ?_ | refine wp_region ?_)
  refine r_box (cs := [.bool (tst (q.num < 0)), m, b]) (by conv => (lhs; whnf)) rfl ?_
  intro w1 g k1 hg hgs
  skip
  refine r_alloc (cs := [.bool false, .slice none 0 0]) rfl ?_
  intro w2 g2 k2 hg2 hgs2
  replace hg := hg.to k2
  have hk1 := k1.size
  repeat (first | refine r_load_all rfl hg rfl ?_ | refine wp_seq_region ?_ | refine wp_region ?_ | refine r_nil ?_)
  refine r_call (den_c (hS.to (k1.trans k2)) (h0.to (k1.trans k2))) rfl ?_
  rintro v3 w3 ⟨k3, h3⟩
  refine r_call (signed0_c h3) rfl ?_
  rintro v4 w4 ⟨k4, m4, rfl, h4⟩
  have hg4 := hg2.to (k3.trans k4)
  refine r_store2 rfl (by conv => (lhs; whnf)) hg4 rfl h4.one ?_
  intro w5 k5 hg5
  repeat (first | refine r_nil ?_ | refine q_then ?_ | refine wp_ret ?_)
  exact end1 rfl (resV_agg (by conv => (lhs; whnf)) hg5 rfl) ⟨Keeps.past (((k1.trans k2).trans k3).trans k4) k5 (by omega), m4, rfl, h4.wrT k5 hg4 (by decide)⟩
theorem mkRat_parts (z : Int) {d : Nat} (hd : 0 < d) : (mkRat z d).num.natAbs = z.natAbs / Nat.gcd d z.natAbs ∧ (mkRat z d).den = d / Nat.gcd d z.natAbs ∧ ((mkRat z d).num < 0 ↔ z < 0) ∧ (mkRat z d).num = z / (Nat.gcd d z.natAbs : Nat) := by
  have hg : 0 < Nat.gcd d z.natAbs := Nat.gcd_pos_of_pos_left _ hd
  have e : mkRat z d = Rat.normalize z d (by omega) := by unfold mkRat; rw [dif_neg (by omega)]
  have hn : (mkRat z d).num = z / (Nat.gcd d z.natAbs : Nat) := by rw [e, Rat.normalize_eq]; show z / ((Nat.gcd z.natAbs d : Nat) : Int) = _; rw [Nat.gcd_comm]
  have hdn : (mkRat z d).den = d / Nat.gcd d z.natAbs := by rw [e, Rat.normalize_eq]; show d / Nat.gcd z.natAbs d = _; rw [Nat.gcd_comm]
  obtain ⟨c, hc⟩ : ((Nat.gcd d z.natAbs : Nat) : Int) ∣ z := Int.ofNat_dvd_left.2 (Nat.gcd_dvd_right ..)
  generalize Nat.gcd d z.natAbs = g at *
  have h1 : z / (g : Int) = c := by rw [hc]; exact Int.mul_ediv_cancel_left _ (by omega)
  have h2 : z.natAbs = g * c.natAbs := by rw [hc, Int.natAbs_mul, Int.natAbs_natCast]
  refine ⟨?_, hdn, ?_, hn⟩
  · rw [hn, h1, h2, Nat.mul_div_cancel_left _ hg]
  · rw [hn, h1, hc]
    constructor
    · intro h; exact Int.mul_neg_of_pos_of_neg (by omega) h
    · intro h
      rcases Int.lt_trichotomy c 0 with h3 | h3 | h3
      · exact h3
      · subst h3; simp at h
      · have := Int.mul_pos (show (0 : Int) < g by omega) h3; omega
theorem reduced_c {S : Nat → Prop} {w : World} {vn vd : Value} {z : Int} {d : Nat} (hS : Up S w) (hz : IntV S 127 .u32 w vn z) (hd : NatV S 127 .u32 w vd d) (hd0 : 0 < d) (hlz : zl z ≤ 1099511626000) (hld : dl d ≤ 1099511626000) :
    Gives Tryz.prog 85 [vn, vd] w fun v' w' => Ext w w' ∧ RatV S w' v' (mkRat z d) := by
  obtain ⟨m, rfl, hm⟩ := hz
  obtain ⟨hp1, hp2, hp3, _⟩ := mkRat_parts z hd0
  have hg0 : 0 < Nat.gcd d z.natAbs := Nat.gcd_pos_of_pos_left _ hd0
  unfold zl at hlz
  have hlg : dl (Nat.gcd d z.natAbs) ≤ 1099511626000 := Nat.le_trans (dl_mono (Nat.gcd_le_left _ hd0)) hld
  refine gives_of Tryz.func85 rfl rfl rfl ?_
  repeat (first | refine wp_seq_region ?_ | refine wp_region ?_)
  refine r_box (cs := [.bool (tst (z < 0)), m]) (by conv => (lhs; whnf)) rfl ?_
  intro w1 g k1 hg hgs
  skip
  refine r_alloc (cs := [.bool false, .slice none 0 0, .slice none 0 0]) rfl ?_
  intro w2 g2 k2 hg2 hgs2
  have hgl := hg.lt
  replace hg := hg.to k2
  have k := k1.trans k2
  have hk1 := k1.size
  replace hm := hm.to k
  replace hd := hd.to k
  have hS2 := hS.to k
  repeat (first | refine r_load_blk rfl hg rfl ?_ | refine wp_seq_region ?_ | refine wp_region ?_ | refine r_move (by conv => (lhs; whnf)) ?_ | refine r_nil ?_ | refine r_field rfl ?_)
  refine r_call (gcd_c hS2 hd hm (by omega) (by omega)) rfl ?_
  rintro v3 w3 ⟨k3, h3⟩
  repeat (first | refine wp_seq_region ?_ | refine wp_seq_seq ?_ | refine wp_region ?_ | refine r_move (by conv => (lhs; whnf)) ?_ | refine r_assign (by conv => (lhs; whnf)) ?_ | refine r_nil ?_)
  refine r_call (isOne_c h3) rfl ?_
  rintro v4 w4 ⟨rfl, rfl⟩
  replace hg := hg.to k3
  replace hg2 := hg2.to k3
  replace hm := hm.to k3
  replace hd := hd.to k3
  have hS4 := hS2.to k3
  have kk := k.trans k3
  repeat (first | refine r_nil ?_ | refine q_then ?_ | refine r_notB rfl ?_)
  first | refine wp_seq_cond ?_ | refine wp_thenB ?_ | refine wp_thenBB ?_ | skip
  refine wp_join [(1, 1), (13, 26)] (fun ρ w' => ∃ mv dv, Blk w' g 26 [.bool (tst (z < 0)), mv] ∧ ρ 1 = dv ∧ NatV S 127 .u32 w' mv (z.natAbs / Nat.gcd d z.natAbs) ∧ NatV S 127 .u32 w' dv (d / Nat.gcd d z.natAbs) ∧ Ext w w' ∧ Blk w' g2 34 [.bool false, .slice none 0 0, .slice none 0 0]) rfl ?_ ?_ ?_
  · intro hc
    repeat (first | refine r_load_blk rfl hg rfl ?_ | refine wp_seq_region ?_ | refine wp_region ?_ | refine r_move (by conv => (lhs; whnf)) ?_ | refine r_field rfl ?_)
    refine r_call (over_c hS4 hm h3 (by omega) (by omega) hg0) rfl ?_
    rintro v5 w5 ⟨vq, vr, rfl, k5, hvq, hvr⟩
    repeat (first | refine r_move (by conv => (lhs; whnf)) ?_ | refine r_extract rfl rfl ?_ | refine r_field rfl ?_)
    refine r_store rfl rfl (hg.to k5) (show 1 < 2 by decide) hvq.one ?_
    intro w6 k6 hg6
    have hg2' := (hg2.to k5).wr k6 (by omega)
    replace hvq := hvq.wrT k6 (hg.to k5) (by decide)
    have hS6 : Up S w6 := fun i hi => hS4 i (by have := k5.size; have := k6.size; omega)
    repeat (first | refine wp_region ?_ | refine r_move (by conv => (lhs; whnf)) ?_ | refine r_nil ?_)
    refine r_call (over_c hS6 ((hd.to k5).wrT k6 (hg.to k5) (by decide)) ((h3.to k5).wrT k6 (hg.to k5) (by decide)) (by omega) (by omega) hg0) rfl ?_
    rintro v7 w7 ⟨vq2, vr2, rfl, k7, hvq2, hvr2⟩
    repeat (first | refine r_move (by conv => (lhs; whnf)) ?_ | refine r_assign (by conv => (lhs; whnf)) ?_ | refine r_nil ?_ | refine q_then ?_ | refine r_extract rfl rfl ?_)
    exact ⟨by (repeat (first | refine agree_upd rfl ?_ | exact agree_over | refine agree_sub rfl ?_ | exact agree_refl)), _, _, hg6.to k7, rfl, hvq.to k7, hvq2, (Keeps.past (kk.trans k5) k6 hgs).trans k7, hg2'.to k7⟩
  · intro hc
    have h1 : Nat.gcd d z.natAbs = 1 := Classical.not_not.1 hc
    repeat (first | refine q_then ?_ | refine wp_skip ?_)
    refine ⟨by (repeat (first | refine agree_upd rfl ?_ | exact agree_over | refine agree_sub rfl ?_ | exact agree_refl)), _, _, hg, rfl, ?_, ?_, kk, hg2⟩
    · rw [h1, Nat.div_one]; exact hm
    · rw [h1, Nat.div_one]; exact hd
  rintro u w5 ⟨mv, dv, hg5, h1, hmv, hdv, k5, hg25⟩
  refine wp_learn 1 h1 ?_
  have hS5 := hS.to k5
  repeat (first | refine wp_seq_region ?_ | refine wp_seq_seq ?_ | refine wp_region ?_ | refine r_move (by conv => (lhs; whnf)) ?_)
  refine r_call (isOne_c hdv) rfl ?_
  rintro v6 w6 ⟨rfl, rfl⟩
  repeat (first | refine r_nil ?_ | refine q_then ?_)
  first | refine wp_seq_cond ?_ | refine wp_thenB ?_ | refine wp_thenBB ?_ | skip
  refine wp_join [(1, 1)] (fun ρ w' => ∃ dv, ρ 1 = dv ∧ NatV S 127 .u32 w6 dv (bot (mkRat z d)) ∧ w' = w6) rfl ?_ ?_ ?_
  · intro hc
    repeat (first | refine wp_region ?_ | refine r_assign (by conv => (lhs; whnf)) ?_ | refine r_nil ?_ | refine q_then ?_)
    refine ⟨by (repeat (first | refine agree_upd rfl ?_ | exact agree_over | refine agree_sub rfl ?_ | exact agree_refl)), _, rfl, ?_, rfl⟩
    unfold bot
    rw [hp2, if_pos hc]
    exact .nil
  · intro hc
    repeat (first | refine q_then ?_ | refine wp_skip ?_)
    refine ⟨by (repeat (first | refine agree_upd rfl ?_ | exact agree_over | refine agree_sub rfl ?_ | exact agree_refl)), _, rfl, ?_, rfl⟩
    unfold bot
    rw [hp2, if_neg hc]
    exact hdv
  rintro u2 w7 ⟨dv2, h12, hdv2, rfl⟩
  refine wp_learn 1 h12 ?_
  repeat (first | refine r_load_blk rfl hg5 rfl ?_ | refine wp_seq_region ?_ | refine wp_region ?_ | refine r_field rfl ?_)
  refine r_call (signed_c (mkRat z d).num hmv hp1 ?_) rfl ?_
  · rw [hp3]
    exact ⟨fun h => ⟨h, by have := hp3.2 h; omega⟩, fun h => h.1⟩
  rintro v8 w8 ⟨k8, m8, rfl, h8⟩
  repeat (first | refine r_move (by conv => (lhs; whnf)) ?_)
  refine r_build3 (by conv => (lhs; whnf)) (by conv => (lhs; whnf)) hdv2.one ?_
  refine r_store3 rfl (by conv => (lhs; whnf)) (hg25.to k8) rfl rfl h8.one hdv2.one ?_
  intro w9 k9 hg9
  repeat (first | refine r_nil ?_ | refine q_then ?_ | refine wp_ret ?_)
  exact end1 rfl (resV_agg (by conv => (lhs; whnf)) hg9 rfl) ⟨Keeps.past (k5.trans k8) k9 (by omega), m8, dv2, rfl, h8.wrT k9 (hg25.to k8) (by decide), (hdv2.to k8).wrT k9 (hg25.to k8) (by decide)⟩
end Go.Proofs.YtpmnjjmngogkkaaGreatDoor
end

section
set_option linter.unusedVariables false
set_option linter.unusedSimpArgs false
namespace Go.Proofs.YtpmnjjmngogkkaaGreatDoor
open Go Go.RowKit
theorem rat_times (a b : Rat) : a * b = mkRat (a.num * b.num) (a.den * b.den) := by
  rw [Rat.mul_def]
  unfold mkRat
  rw [dif_neg (Nat.mul_ne_zero a.den_nz b.den_nz)]
theorem rat_over (a b : Rat) (hb : b.num ≠ 0) : a / b = mkRat (a.num * b.den * b.num.sign) (a.den * b.num.natAbs) := by
  rw [Rat.div_def, Rat.inv_def]
  have h1 : a = Rat.divInt a.num a.den := by rw [Rat.divInt_ofNat]; exact (Rat.mkRat_self a).symm
  conv => lhs; rw [h1]
  rw [Rat.divInt_mul_divInt]
  rcases Int.lt_trichotomy b.num 0 with h | h | h
  · have e1 : (a.den : Int) * b.num = -((a.den * b.num.natAbs : Nat) : Int) := by
      rw [Int.natCast_mul, show ((b.num.natAbs : Nat) : Int) = -b.num by omega, Int.mul_neg, Int.neg_neg]
    rw [e1, Int.sign_eq_neg_one_of_neg h, Rat.divInt_neg', Rat.divInt_ofNat]
    congr 1
    rw [Int.mul_neg, Int.mul_one]
  · exact absurd h hb
  · have e1 : (a.den : Int) * b.num = ((a.den * b.num.natAbs : Nat) : Int) := by
      rw [Int.natCast_mul, show ((b.num.natAbs : Nat) : Int) = b.num by omega]
    rw [e1, Int.sign_eq_one_of_pos h, Rat.divInt_ofNat]
    congr 1
    rw [Int.mul_one]
theorem rplus_c {S : Nat → Prop} {w : World} {va vb : Value} {a b : Rat} (hS : Up S w) (ha : RatV S w va a) (hb : RatV S w vb b) (hla : rl a 400000000000) (hlb : rl b 400000000000) :
    Gives Tryz.prog 105 [va, vb] w fun v' w' => Ext w w' ∧ RatV S w' v' (a + b) := by
  rw [Rat.add_def']
  have h1 := zl_mul a.num b.den
  have h2 := zl_mul b.num a.den
  have h3 := zl_add (a.num * b.den) (b.num * a.den)
  have h4 := dl_mul a.den b.den
  have hd0 : 0 < a.den * b.den := Nat.mul_pos a.den_pos b.den_pos
  obtain ⟨hla1, hla2⟩ := hla
  obtain ⟨hlb1, hlb2⟩ := hlb
  unfold zl at *
  rw [Int.natAbs_natCast] at h1 h2
  have ha0 := ha
  have hb0 := hb
  obtain ⟨ma, ba, rfl, hma, hba⟩ := ha
  obtain ⟨mb, bb, rfl, hmb, hbb⟩ := hb
  refine gives_of Tryz.func105 rfl rfl rfl ?_
  repeat (first | refine wp_seq_region ?_ | refine wp_region ?_)
  refine r_box (cs := [.bool (tst (a.num < 0)), ma, ba]) (by conv => (lhs; whnf)) rfl ?_
  intro w1 ga k1 hga hgsa
  skip
  refine r_box (cs := [.bool (tst (b.num < 0)), mb, bb]) (by conv => (lhs; whnf)) rfl ?_
  intro w2 gb k2 hgb hgsb
  skip
  refine r_alloc (cs := [.bool false, .slice none 0 0, .slice none 0 0]) rfl ?_
  intro w3 g k3 hg hgs
  replace hga := hga.to (k2.trans k3)
  replace hgb := hgb.to k3
  have k := (k1.trans k2).trans k3
  have hs := (k1.trans k2).size
  replace ha0 := ha0.to k
  replace hb0 := hb0.to k
  replace hma := hma.to k
  replace hmb := hmb.to k
  replace hba := hba.to k
  replace hbb := hbb.to k
  replace hS := hS.to k
  clear k1 k2 k3
  repeat (first | refine wp_seq_region ?_ | refine r_nil ?_)
  refine wp_drawn 17 (by kernel_rfl) (by kernel_rfl) ?_
  apply ob_step
  · intro x w1 k1 hd
    refine r_field rfl ?_
    refine r_nil ?_
    exact ob_eq
  apply ob_step
  · intro x w1 k1 hd
    refine r_load_part rfl (hga.to k1) rfl rfl ?_
    refine r_nil ?_
    exact ob_eq
  apply ob_step
  · intro x w1 k1 hd
    refine r_load_all rfl (hgb.to k1) rfl ?_
    refine r_nil ?_
    exact ob_eq
  refine ob_step (e := intE S 127 .u32 (b.den : Int)) ?_ ?_
  · intro x w1 k1 hd
    refine r_call (rden_c (hS.to k1) (hb0.to k1)) rfl ?_
    rintro v2 w2 ⟨k2, h2⟩
    exact r_nil (ob_of k2 h2)
  refine ob_step (e := intE S 127 .u32 (a.num * b.den)) ?_ ?_
  · intro x w1 k1 hd
    refine r_call (itimes_c (hS.to k1) ⟨ma, rfl, hma.to k1⟩ hd.1 (by unfold zl; omega) (by unfold zl; rw [Int.natAbs_natCast]; omega)) rfl ?_
    rintro v2 w2 ⟨k2, h2⟩
    exact r_nil (ob_of k2 h2)
  apply ob_step
  · intro x w1 k1 hd
    refine r_field rfl ?_
    refine r_nil ?_
    exact ob_eq
  apply ob_step
  · intro x w1 k1 hd
    refine r_load_part rfl (hgb.to k1) rfl rfl ?_
    refine r_nil ?_
    exact ob_eq
  apply ob_step
  · intro x w1 k1 hd
    refine r_load_all rfl (hga.to k1) rfl ?_
    refine r_nil ?_
    exact ob_eq
  refine ob_step (e := intE S 127 .u32 (a.den : Int)) ?_ ?_
  · intro x w1 k1 hd
    refine r_call (rden_c (hS.to k1) (ha0.to k1)) rfl ?_
    rintro v2 w2 ⟨k2, h2⟩
    exact r_nil (ob_of k2 h2)
  refine ob_step (e := intE S 127 .u32 (b.num * a.den)) ?_ ?_
  · intro x w1 k1 hd
    refine r_call (itimes_c (hS.to k1) ⟨mb, rfl, hmb.to k1⟩ hd.1 (by unfold zl; omega) (by unfold zl; rw [Int.natAbs_natCast]; omega)) rfl ?_
    rintro v2 w2 ⟨k2, h2⟩
    exact r_nil (ob_of k2 h2)
  refine ob_step (e := intE S 127 .u32 (a.num * b.den + b.num * a.den)) ?_ ?_
  · intro x w1 k1 hd
    refine r_call (iplus_c (hS.to k1) hd.2.2.2.2.2.1 hd.1 (by omega) (by omega)) rfl ?_
    rintro v2 w2 ⟨k2, h2⟩
    exact r_nil (ob_of k2 h2)
  apply ob_step
  · intro x w1 k1 hd
    refine r_load_all rfl (hga.to k1) rfl ?_
    refine r_nil ?_
    exact ob_eq
  refine ob_step (e := natE S 127 .u32 a.den) ?_ ?_
  · intro x w1 k1 hd
    refine r_call (den_c (hS.to k1) (ha0.to k1)) rfl ?_
    rintro v2 w2 ⟨k2, h2⟩
    exact r_nil (ob_of k2 h2)
  apply ob_step
  · intro x w1 k1 hd
    refine r_load_all rfl (hgb.to k1) rfl ?_
    refine r_nil ?_
    exact ob_eq
  refine ob_step (e := natE S 127 .u32 b.den) ?_ ?_
  · intro x w1 k1 hd
    refine r_call (den_c (hS.to k1) (hb0.to k1)) rfl ?_
    rintro v2 w2 ⟨k2, h2⟩
    exact r_nil (ob_of k2 h2)
  refine ob_step (e := natE S 127 .u32 (a.den * b.den)) ?_ ?_
  · intro x w1 k1 hd
    refine r_call (times_c (hS.to k1) hd.2.2.1 hd.1 (by omega) (by omega)) rfl ?_
    rintro v2 w2 ⟨k2, h2⟩
    exact r_nil (ob_of k2 h2)
  refine ob_step (e := ratE S (mkRat (a.num * b.den + b.num * a.den) (a.den * b.den))) ?_ ?_
  · intro x w1 k1 hd
    refine r_call (reduced_c (hS.to k1) hd.2.2.2.2.2.1 hd.1 hd0 (by unfold zl; omega) (by omega)) rfl ?_
    rintro v2 w2 ⟨k2, h2⟩
    exact r_nil (ob_of k2 h2)
  refine ob_nil (ob_end ?_)
  intro x w5 k5 hall
  obtain ⟨m5, b5, hv5, h5, h6⟩ := hall.1
  refine r_store3 rfl hv5 (hg.to k5) rfl rfl h5.one h6.one ?_
  intro w6 k6 hg6
  repeat (first | refine r_nil ?_ | refine q_then ?_ | refine wp_ret ?_)
  exact end1 rfl (resV_agg (by conv => (lhs; whnf)) hg6 rfl) ⟨Keeps.past (k.trans k5) k6 (by omega), m5, b5, rfl, h5.wrT k6 (hg.to k5) (by decide), h6.wrT k6 (hg.to k5) (by decide)⟩
theorem rtimes_c {S : Nat → Prop} {w : World} {va vb : Value} {a b : Rat} (hS : Up S w) (ha : RatV S w va a) (hb : RatV S w vb b) (hla : rl a 400000000000) (hlb : rl b 400000000000) :
    Gives Tryz.prog 108 [va, vb] w fun v' w' => Ext w w' ∧ RatV S w' v' (a * b) := by
  rw [rat_times]
  have h1 := zl_mul a.num b.num
  have h4 := dl_mul a.den b.den
  have hd0 : 0 < a.den * b.den := Nat.mul_pos a.den_pos b.den_pos
  obtain ⟨hla1, hla2⟩ := hla
  obtain ⟨hlb1, hlb2⟩ := hlb
  unfold zl at *
  have ha0 := ha
  have hb0 := hb
  obtain ⟨ma, ba, rfl, hma, hba⟩ := ha
  obtain ⟨mb, bb, rfl, hmb, hbb⟩ := hb
  refine gives_of Tryz.func108 rfl rfl rfl ?_
  repeat (first | refine wp_seq_region ?_ | refine wp_region ?_)
  refine r_box (cs := [.bool (tst (a.num < 0)), ma, ba]) (by conv => (lhs; whnf)) rfl ?_
  intro w1 ga k1 hga hgsa
  skip
  refine r_box (cs := [.bool (tst (b.num < 0)), mb, bb]) (by conv => (lhs; whnf)) rfl ?_
  intro w2 gb k2 hgb hgsb
  skip
  refine r_alloc (cs := [.bool false, .slice none 0 0, .slice none 0 0]) rfl ?_
  intro w3 g k3 hg hgs
  replace hga := hga.to (k2.trans k3)
  replace hgb := hgb.to k3
  have k := (k1.trans k2).trans k3
  have hs := (k1.trans k2).size
  replace ha0 := ha0.to k
  replace hb0 := hb0.to k
  replace hma := hma.to k
  replace hmb := hmb.to k
  replace hba := hba.to k
  replace hbb := hbb.to k
  replace hS := hS.to k
  clear k1 k2 k3
  repeat (first | refine wp_seq_region ?_ | refine r_nil ?_)
  refine wp_drawn 11 (by kernel_rfl) (by kernel_rfl) ?_
  apply ob_step
  · intro x w1 k1 hd
    refine r_field rfl ?_
    refine r_nil ?_
    exact ob_eq
  apply ob_step
  · intro x w1 k1 hd
    refine r_load_part rfl (hga.to k1) rfl rfl ?_
    refine r_nil ?_
    exact ob_eq
  apply ob_step
  · intro x w1 k1 hd
    refine r_field rfl ?_
    refine r_nil ?_
    exact ob_eq
  apply ob_step
  · intro x w1 k1 hd
    refine r_load_part rfl (hgb.to k1) rfl rfl ?_
    refine r_nil ?_
    exact ob_eq
  refine ob_step (e := intE S 127 .u32 (a.num * b.num)) ?_ ?_
  · intro x w1 k1 hd
    refine r_call (itimes_c (hS.to k1) ⟨ma, rfl, hma.to k1⟩ ⟨mb, rfl, hmb.to k1⟩ (by unfold zl; omega) (by unfold zl; omega)) rfl ?_
    rintro v2 w2 ⟨k2, h2⟩
    exact r_nil (ob_of k2 h2)
  apply ob_step
  · intro x w1 k1 hd
    refine r_load_all rfl (hga.to k1) rfl ?_
    refine r_nil ?_
    exact ob_eq
  refine ob_step (e := natE S 127 .u32 a.den) ?_ ?_
  · intro x w1 k1 hd
    refine r_call (den_c (hS.to k1) (ha0.to k1)) rfl ?_
    rintro v2 w2 ⟨k2, h2⟩
    exact r_nil (ob_of k2 h2)
  apply ob_step
  · intro x w1 k1 hd
    refine r_load_all rfl (hgb.to k1) rfl ?_
    refine r_nil ?_
    exact ob_eq
  refine ob_step (e := natE S 127 .u32 b.den) ?_ ?_
  · intro x w1 k1 hd
    refine r_call (den_c (hS.to k1) (hb0.to k1)) rfl ?_
    rintro v2 w2 ⟨k2, h2⟩
    exact r_nil (ob_of k2 h2)
  refine ob_step (e := natE S 127 .u32 (a.den * b.den)) ?_ ?_
  · intro x w1 k1 hd
    refine r_call (times_c (hS.to k1) hd.2.2.1 hd.1 (by omega) (by omega)) rfl ?_
    rintro v2 w2 ⟨k2, h2⟩
    exact r_nil (ob_of k2 h2)
  refine ob_step (e := ratE S (mkRat (a.num * b.num) (a.den * b.den))) ?_ ?_
  · intro x w1 k1 hd
    refine r_call (reduced_c (hS.to k1) hd.2.2.2.2.2.1 hd.1 hd0 (by unfold zl; omega) (by omega)) rfl ?_
    rintro v2 w2 ⟨k2, h2⟩
    exact r_nil (ob_of k2 h2)
  refine ob_nil (ob_end ?_)
  intro x w5 k5 hall
  obtain ⟨m5, b5, hv5, h5, h6⟩ := hall.1
  refine r_store3 rfl hv5 (hg.to k5) rfl rfl h5.one h6.one ?_
  intro w6 k6 hg6
  repeat (first | refine r_nil ?_ | refine q_then ?_ | refine wp_ret ?_)
  exact end1 rfl (resV_agg (by conv => (lhs; whnf)) hg6 rfl) ⟨Keeps.past (k.trans k5) k6 (by omega), m5, b5, rfl, h5.wrT k6 (hg.to k5) (by decide), h6.wrT k6 (hg.to k5) (by decide)⟩
theorem over_abs (a b : Rat) (hb : b.num ≠ 0) : (a.num * b.den * b.num.sign).natAbs = a.num.natAbs * b.den := by
  have h1 : b.num.sign.natAbs = 1 := by
    rcases Int.lt_trichotomy b.num 0 with h | h | h
    · rw [Int.sign_eq_neg_one_of_neg h]; rfl
    · exact absurd h hb
    · rw [Int.sign_eq_one_of_pos h]; rfl
  rw [Int.natAbs_mul, Int.natAbs_mul, h1, Int.natAbs_natCast, Nat.mul_one]
theorem over_sign (a b : Rat) (hb : b.num ≠ 0) : a.num * b.den * b.num.sign < 0 ↔ (¬ (a.num < 0 ↔ b.num < 0)) ∧ 0 < a.num.natAbs * b.den := by
  have hd := b.den_pos
  have e : a.num.natAbs * b.den = a.num.natAbs * (b.den : Int).natAbs := by rw [Int.natAbs_natCast]
  have h0 := mul_sign a.num b.den
  have hdn : ¬ ((b.den : Int) < 0) := by omega
  rw [Int.natAbs_natCast] at h0
  rcases Int.lt_trichotomy b.num 0 with h | h | h
  · rw [Int.sign_eq_neg_one_of_neg h, Int.mul_neg, Int.mul_one]
    have hp : 0 < a.num.natAbs * b.den ↔ a.num ≠ 0 := by
      constructor
      · intro h1 h2; rw [h2] at h1; simp at h1
      · intro h1; exact Nat.mul_pos (by omega) hd
    rw [hp] at h0 ⊢
    have hz : a.num = 0 → a.num * (b.den : Int) = 0 := fun h => by rw [h]; simp
    have hnz : a.num * (b.den : Int) = 0 → a.num = 0 := fun h => by
      rcases Int.mul_eq_zero.1 h with h | h
      · exact h
      · omega
    constructor
    · intro h1
      refine ⟨fun hi => ?_, fun hi => by have := hz hi; omega⟩
      have : a.num < 0 := hi.2 h
      have h2 := h0.2 ⟨fun x => hdn (x.1 this), by omega⟩
      omega
    · rintro ⟨h1, h2⟩
      have h3 : ¬ a.num < 0 := fun x => h1 ⟨fun _ => h, fun _ => x⟩
      have h4 : ¬ a.num * (b.den : Int) < 0 := fun x => (h0.1 x).1 ⟨fun y => absurd y h3, fun y => absurd y hdn⟩
      have : a.num * (b.den : Int) ≠ 0 := fun x => h2 (hnz x)
      omega
  · exact absurd h hb
  · rw [Int.sign_eq_one_of_pos h, Int.mul_one, h0]
    have h2 : ¬ b.num < 0 := by omega
    constructor
    · rintro ⟨h1, h3⟩
      exact ⟨fun hi => h1 ⟨fun x => absurd (hi.1 x) h2, fun x => absurd x hdn⟩, h3⟩
    · rintro ⟨h1, h3⟩
      exact ⟨fun hi => h1 ⟨fun x => absurd (hi.1 x) hdn, fun x => absurd x h2⟩, h3⟩
theorem rover_c {S : Nat → Prop} {w : World} {va vb : Value} {a b : Rat} (hS : Up S w) (ha : RatV S w va a) (hb : RatV S w vb b) (hla : rl a 400000000000) (hlb : rl b 400000000000) (hb0' : b.num ≠ 0) :
    Gives Tryz.prog 109 [va, vb] w fun v' w' => Ext w w' ∧ RatV S w' v' (a / b) := by
  rw [rat_over a b hb0']
  have h1 := dl_mul a.num.natAbs b.den
  have h4 := dl_mul a.den b.num.natAbs
  have hd0 : 0 < a.den * b.num.natAbs := Nat.mul_pos a.den_pos (by omega)
  have hab := over_abs a b hb0'
  have hsg := over_sign a b hb0'
  obtain ⟨hla1, hla2⟩ := hla
  obtain ⟨hlb1, hlb2⟩ := hlb
  have ha0 := ha
  have hb0 := hb
  obtain ⟨ma, ba, rfl, hma, hba⟩ := ha
  obtain ⟨mb, bb, rfl, hmb, hbb⟩ := hb
  refine gives_of Tryz.func109 rfl rfl rfl ?_
  repeat (first | refine wp_seq_region ?_ | refine wp_region ?_)
  refine r_box (cs := [.bool (tst (a.num < 0)), ma, ba]) (by conv => (lhs; whnf)) rfl ?_
  intro w1 ga k1 hga hgsa
  skip
  refine r_box (cs := [.bool (tst (b.num < 0)), mb, bb]) (by conv => (lhs; whnf)) rfl ?_
  intro w2 gb k2 hgb hgsb
  skip
  refine r_alloc (cs := [.bool false, .slice none 0 0, .slice none 0 0]) rfl ?_
  intro w3 g k3 hg hgs
  replace hga := hga.to (k2.trans k3)
  replace hgb := hgb.to k3
  have k := (k1.trans k2).trans k3
  have hs := (k1.trans k2).size
  replace ha0 := ha0.to k
  replace hb0 := hb0.to k
  replace hma := hma.to k
  replace hmb := hmb.to k
  replace hba := hba.to k
  replace hbb := hbb.to k
  replace hS := hS.to k
  clear k1 k2 k3
  repeat (first | refine wp_seq_region ?_ | refine r_nil ?_)
  refine wp_drawn 21 (by kernel_rfl) (by kernel_rfl) ?_
  apply ob_step
  · intro x w1 k1 hd
    refine r_field rfl ?_
    refine r_nil ?_
    exact ob_eq
  apply ob_step
  · intro x w1 k1 hd
    refine r_field rfl ?_
    refine r_nil ?_
    exact ob_eq
  apply ob_step
  · intro x w1 k1 hd
    refine r_load_blk rfl (hga.to k1) rfl ?_
    refine r_nil ?_
    exact ob_eq
  apply ob_step
  · intro x w1 k1 hd
    refine r_field rfl ?_
    refine r_nil ?_
    exact ob_eq
  apply ob_step
  · intro x w1 k1 hd
    refine r_field rfl ?_
    refine r_nil ?_
    exact ob_eq
  apply ob_step
  · intro x w1 k1 hd
    refine r_load_blk rfl (hgb.to k1) rfl ?_
    refine r_nil ?_
    exact ob_eq
  apply ob_step
  · intro x w1 k1 hd
    refine r_neqB rfl rfl ?_
    refine r_nil ?_
    exact ob_eq
  apply ob_step
  · intro x w1 k1 hd
    refine r_field rfl ?_
    refine r_nil ?_
    exact ob_eq
  apply ob_step
  · intro x w1 k1 hd
    refine r_field rfl ?_
    refine r_nil ?_
    exact ob_eq
  apply ob_step
  · intro x w1 k1 hd
    refine r_load_blk rfl (hga.to k1) rfl ?_
    refine r_nil ?_
    exact ob_eq
  apply ob_step
  · intro x w1 k1 hd
    refine r_load_all rfl (hgb.to k1) rfl ?_
    refine r_nil ?_
    exact ob_eq
  refine ob_step (e := natE S 127 .u32 b.den) ?_ ?_
  · intro x w1 k1 hd
    refine r_call (den_c (hS.to k1) (hb0.to k1)) rfl ?_
    rintro v2 w2 ⟨k2, h2⟩
    exact r_nil (ob_of k2 h2)
  refine ob_step (e := natE S 127 .u32 (a.num.natAbs * b.den)) ?_ ?_
  · intro x w1 k1 hd
    refine r_call (times_c (hS.to k1) (hma.to k1) hd.1 (by omega) (by omega)) rfl ?_
    rintro v2 w2 ⟨k2, h2⟩
    exact r_nil (ob_of k2 h2)
  refine ob_step (e := intE S 127 .u32 (a.num * b.den * b.num.sign)) ?_ ?_
  · intro x w1 k1 hd
    refine r_call (signed_c (a.num * b.den * b.num.sign) hd.1 hab hsg) rfl ?_
    rintro v2 w2 ⟨k2, h2⟩
    exact r_nil (ob_of k2 h2)
  apply ob_step
  · intro x w1 k1 hd
    refine r_load_all rfl (hga.to k1) rfl ?_
    refine r_nil ?_
    exact ob_eq
  refine ob_step (e := natE S 127 .u32 a.den) ?_ ?_
  · intro x w1 k1 hd
    refine r_call (den_c (hS.to k1) (ha0.to k1)) rfl ?_
    rintro v2 w2 ⟨k2, h2⟩
    exact r_nil (ob_of k2 h2)
  apply ob_step
  · intro x w1 k1 hd
    refine r_field rfl ?_
    refine r_nil ?_
    exact ob_eq
  apply ob_step
  · intro x w1 k1 hd
    refine r_field rfl ?_
    refine r_nil ?_
    exact ob_eq
  apply ob_step
  · intro x w1 k1 hd
    refine r_load_blk rfl (hgb.to k1) rfl ?_
    refine r_nil ?_
    exact ob_eq
  refine ob_step (e := natE S 127 .u32 (a.den * b.num.natAbs)) ?_ ?_
  · intro x w1 k1 hd
    refine r_call (times_c (hS.to k1) hd.2.2.2.1 (hmb.to k1) (by omega) (by omega)) rfl ?_
    rintro v2 w2 ⟨k2, h2⟩
    exact r_nil (ob_of k2 h2)
  refine ob_step (e := ratE S (mkRat (a.num * b.den * b.num.sign) (a.den * b.num.natAbs))) ?_ ?_
  · intro x w1 k1 hd
    refine r_call (reduced_c (hS.to k1) hd.2.2.2.2.2.2.1 hd.1 hd0 (by unfold zl; rw [hab]; omega) (by omega)) rfl ?_
    rintro v2 w2 ⟨k2, h2⟩
    exact r_nil (ob_of k2 h2)
  refine ob_nil (ob_end ?_)
  intro x w5 k5 hall
  obtain ⟨m5, b5, hv5, h5, h6⟩ := hall.1
  refine r_store3 rfl hv5 (hg.to k5) rfl rfl h5.one h6.one ?_
  intro w6 k6 hg6
  repeat (first | refine r_nil ?_ | refine q_then ?_ | refine wp_ret ?_)
  exact end1 rfl (resV_agg (by conv => (lhs; whnf)) hg6 rfl) ⟨Keeps.past (k.trans k5) k6 (by omega), m5, b5, rfl, h5.wrT k6 (hg.to k5) (by decide), h6.wrT k6 (hg.to k5) (by decide)⟩
theorem rsign_c {S : Nat → Prop} {w : World} {v : Value} {q : Rat} (h : RatV S w v q) :
    Gives Tryz.prog 19 [v] w fun v' w' => v' = .int .i64 q.num.sign ∧ Ext w w' := by
  obtain ⟨m, b, rfl, hm, hb⟩ := h
  refine gives_of Tryz.func19 rfl rfl rfl ?_
  repeat (first | refine wp_seq_region ?_ | refine wp_region ?_)
  refine r_box (cs := [.bool (tst (q.num < 0)), m, b]) (by conv => (lhs; whnf)) rfl ?_
  intro w1 g k1 hg hgs
  repeat (first | refine r_load_part rfl hg rfl rfl ?_ | refine wp_seq_region ?_ | refine wp_region ?_ | refine r_assign (by conv => (lhs; whnf)) ?_ | refine r_nil ?_ | refine r_field rfl ?_)
  refine r_call (sign_c (z := q.num) ⟨m, rfl, hm.to k1⟩) rfl ?_
  rintro v2 w2 ⟨rfl, k2⟩
  repeat (first | refine r_assign (by conv => (lhs; whnf)) ?_ | refine r_nil ?_ | refine q_then ?_ | refine wp_ret ?_)
  exact end_tmp rfl (by conv => (lhs; whnf)) ⟨rfl, k1.trans k2⟩
theorem bot_neg (q : Rat) : bot (-q) = bot q := by unfold bot; rw [Rat.neg_den]
theorem rneg_c {S : Nat → Prop} {w : World} {v : Value} {q : Rat} (h : RatV S w v q) :
    Gives Tryz.prog 55 [v] w fun v' w' => Ext w w' ∧ RatV S w' v' (-q) := by
  obtain ⟨m, b, rfl, hm, hb⟩ := h
  refine gives_of Tryz.func55 rfl rfl rfl ?_
  repeat (first | refine wp_seq_region ?_ | refine wp_region ?_)
  refine r_box (cs := [.bool (tst (q.num < 0)), m, b]) (by conv => (lhs; whnf)) rfl ?_
  intro w1 ga k1 hga hgsa
  skip
  refine r_alloc (cs := [.bool false, .slice none 0 0, .slice none 0 0]) rfl ?_
  intro w2 g k2 hg hgs
  replace hga := hga.to k2
  have k := k1.trans k2
  have hs := k1.size
  replace hm := hm.to k
  replace hb := hb.to k
  clear k1 k2
  repeat (first | refine wp_seq_region ?_ | refine r_nil ?_)
  refine wp_drawn 6 (by kernel_rfl) (by kernel_rfl) ?_
  apply ob_step
  · intro x w1 k1 hd
    refine r_field rfl ?_
    refine r_nil ?_
    exact ob_eq
  apply ob_step
  · intro x w1 k1 hd
    refine r_load_part rfl (hga.to k1) rfl rfl ?_
    refine r_nil ?_
    exact ob_eq
  refine ob_step (e := intE S 127 .u32 (-q.num)) ?_ ?_
  · intro x w1 k1 hd
    refine r_call (neg_c ⟨m, rfl, hm.to k1⟩) rfl ?_
    rintro v2 w2 ⟨k2, h2⟩
    exact r_nil (ob_of k2 h2)
  apply ob_step
  · intro x w1 k1 hd
    refine r_field rfl ?_
    refine r_nil ?_
    exact ob_eq
  apply ob_step
  · intro x w1 k1 hd
    refine r_load_blk rfl (hga.to k1) rfl ?_
    refine r_nil ?_
    exact ob_eq
  refine ob_step (e := ratE S (-q)) ?_ ?_
  · intro x w1 k1 hd
    obtain ⟨m1, hx1, h1⟩ : IntV S 127 .u32 w1 (x 2) (-q.num) := hd.2.2.1
    refine r_build3 hx1 rfl hb.one ?_
    refine r_nil (ob_of .refl ⟨m1, b, ?_, ?_, ?_⟩)
    · rw [Rat.neg_num]; rfl
    · rw [Rat.neg_num]; exact h1
    · rw [bot_neg]; exact hb.to k1
  refine ob_nil (ob_end ?_)
  intro x w5 k5 hall
  obtain ⟨m5, b5, hv5, h5, h6⟩ := hall.1
  refine r_store3 rfl hv5 (hg.to k5) rfl rfl h5.one h6.one ?_
  intro w6 k6 hg6
  repeat (first | refine r_nil ?_ | refine q_then ?_ | refine wp_ret ?_)
  exact end1 rfl (resV_agg (by conv => (lhs; whnf)) hg6 rfl) ⟨Keeps.past (k.trans k5) k6 (by omega), m5, b5, rfl, h5.wrT k6 (hg.to k5) (by decide), h6.wrT k6 (hg.to k5) (by decide)⟩
theorem rminus_c {S : Nat → Prop} {w : World} {va vb : Value} {a b : Rat} (hS : Up S w) (ha : RatV S w va a) (hb : RatV S w vb b) (hla : rl a 400000000000) (hlb : rl b 400000000000) :
    Gives Tryz.prog 107 [va, vb] w fun v' w' => Ext w w' ∧ RatV S w' v' (a - b) := by
  rw [Rat.sub_eq_add_neg]
  have ha0 := ha
  have hb0 := hb
  obtain ⟨ma, ba, rfl, hma, hba⟩ := ha
  obtain ⟨mb, bb, rfl, hmb, hbb⟩ := hb
  refine gives_of Tryz.func107 rfl rfl rfl ?_
  repeat (first | refine wp_seq_region ?_ | refine wp_region ?_)
  refine r_box (cs := [.bool (tst (a.num < 0)), ma, ba]) (by conv => (lhs; whnf)) rfl ?_
  intro w1 ga k1 hga hgsa
  skip
  refine r_box (cs := [.bool (tst (b.num < 0)), mb, bb]) (by conv => (lhs; whnf)) rfl ?_
  intro w2 gb k2 hgb hgsb
  skip
  refine r_alloc (cs := [.bool false, .slice none 0 0, .slice none 0 0]) rfl ?_
  intro w3 g k3 hg hgs
  replace hga := hga.to (k2.trans k3)
  replace hgb := hgb.to k3
  have k := (k1.trans k2).trans k3
  have hs := (k1.trans k2).size
  replace ha0 := ha0.to k
  replace hb0 := hb0.to k
  replace hma := hma.to k
  replace hmb := hmb.to k
  replace hba := hba.to k
  replace hbb := hbb.to k
  replace hS := hS.to k
  clear k1 k2 k3
  repeat (first | refine wp_seq_region ?_ | refine r_nil ?_)
  refine wp_drawn 4 (by kernel_rfl) (by kernel_rfl) ?_
  apply ob_step
  · intro x w1 k1 hd
    refine r_load_all rfl (hga.to k1) rfl ?_
    refine r_nil ?_
    exact ob_eq
  apply ob_step
  · intro x w1 k1 hd
    refine r_load_all rfl (hgb.to k1) rfl ?_
    refine r_nil ?_
    exact ob_eq
  refine ob_step (e := ratE S (-b)) ?_ ?_
  · intro x w1 k1 hd
    refine r_call (rneg_c (hb0.to k1)) rfl ?_
    rintro v2 w2 ⟨k2, h2⟩
    exact r_nil (ob_of k2 h2)
  refine ob_step (e := ratE S (a + -b)) ?_ ?_
  · intro x w1 k1 hd
    refine r_call (rplus_c (hS.to k1) (ha0.to k1) hd.1 hla ⟨by rw [Rat.neg_num, Int.natAbs_neg]; exact hlb.1, by rw [Rat.neg_den]; exact hlb.2⟩) rfl ?_
    rintro v2 w2 ⟨k2, h2⟩
    exact r_nil (ob_of k2 h2)
  refine ob_nil (ob_end ?_)
  intro x w5 k5 hall
  obtain ⟨m5, b5, hv5, h5, h6⟩ := hall.1
  refine r_store3 rfl hv5 (hg.to k5) rfl rfl h5.one h6.one ?_
  intro w6 k6 hg6
  repeat (first | refine r_nil ?_ | refine q_then ?_ | refine wp_ret ?_)
  exact end1 rfl (resV_agg (by conv => (lhs; whnf)) hg6 rfl) ⟨Keeps.past (k.trans k5) k6 (by omega), m5, b5, rfl, h5.wrT k6 (hg.to k5) (by decide), h6.wrT k6 (hg.to k5) (by decide)⟩
/-- An integer as a fraction. -/
theorem bot_int (z : Int) : bot (z : Rat) = 0 := by unfold bot; simp
theorem of_c {S : Nat → Prop} {w : World} {z : Int} (hS : Up S w) (h0 : -9223372036854775808 ≤ z) (h1 : z ≤ 9223372036854775807) :
    Gives Tryz.prog 15 [.int .i64 z] w fun v' w' => Ext w w' ∧ RatV S w' v' (z : Rat) := by
  refine gives_of Tryz.func15 rfl rfl rfl ?_
  repeat (first | refine wp_seq_region ?_ | refine wp_region ?_)
  refine r_alloc (cs := [.bool false, .slice none 0 0, .slice none 0 0]) rfl ?_
  intro w1 g k1 hg hgs
  repeat (first | refine wp_seq_region ?_ | refine wp_region ?_ | refine r_move (by conv => (lhs; whnf)) ?_ | refine r_nil ?_)
  refine r_call (whole_c (hS.to k1) h0 h1) rfl ?_
  rintro v2 w2 ⟨k2, m2, rfl, h2⟩
  refine r_build2of3 (by conv => (lhs; whnf)) ?_
  refine r_store3 rfl (by conv => (lhs; whnf)) (hg.to k2) rfl rfl h2.one rfl ?_
  intro w3 k3 hg3
  repeat (first | refine r_nil ?_ | refine q_then ?_ | refine wp_ret ?_)
  refine end1 rfl (resV_agg (by conv => (lhs; whnf)) hg3 rfl) ⟨Keeps.past (k1.trans k2) k3 (by omega), m2, _, rfl, h2.wrT k3 (hg.to k2) (by decide), ?_⟩
  rw [bot_int]
  exact .nil
theorem mul_sgn_abs (a b : Int) (hb : b ≠ 0) : (a * b.sign).natAbs = a.natAbs := by
  rcases Int.lt_trichotomy b 0 with h | h | h
  · rw [Int.sign_eq_neg_one_of_neg h]; omega
  · exact absurd h hb
  · rw [Int.sign_eq_one_of_pos h]; omega
theorem mul_sgn_sign (a b : Int) (hb : b ≠ 0) : a * b.sign < 0 ↔ (¬ (a < 0 ↔ b < 0)) ∧ 0 < a.natAbs := by
  rcases Int.lt_trichotomy b 0 with h | h | h
  · rw [Int.sign_eq_neg_one_of_neg h]
    constructor
    · intro h1; exact ⟨fun x => by have := x.2 h; omega, by omega⟩
    · rintro ⟨h1, h2⟩
      have : ¬ a < 0 := fun x => h1 ⟨fun _ => h, fun _ => x⟩
      omega
  · exact absurd h hb
  · rw [Int.sign_eq_one_of_pos h]
    constructor
    · intro h1; exact ⟨fun x => by have := x.1 (by omega); omega, by omega⟩
    · rintro ⟨h1, h2⟩
      have : a < 0 := by
        rcases Int.lt_trichotomy a 0 with h3 | h3 | h3
        · exact h3
        · omega
        · exact absurd ⟨fun x => by omega, fun x => by omega⟩ h1
      omega
/-- The quotient of two int64s. -/
theorem make_c {S : Nat → Prop} {w : World} {a b : Int} (hS : Up S w) (ha0 : -9223372036854775808 ≤ a) (ha1 : a ≤ 9223372036854775807) (hb0 : -9223372036854775808 ≤ b) (hb1 : b ≤ 9223372036854775807) (hb : b ≠ 0) :
    Gives Tryz.prog 18 [.int .i64 a, .int .i64 b] w fun v' w' => ∃ v, v' = .tuple #[v, .int .i64 0] ∧ Ext w w' ∧ RatV S w' v (mkRat (a * b.sign) b.natAbs) := by
  refine gives_of Tryz.func18 rfl rfl rfl ?_
  repeat (first | refine wp_seq_region ?_ | refine wp_region ?_)
  refine r_alloc (cs := [.bool false, .slice none 0 0, .slice none 0 0]) rfl ?_
  intro w1 g k1 hg hgs
  repeat (first | refine wp_seq_region ?_ | refine wp_seq_seq ?_ | refine wp_region ?_ | refine r_move (by conv => (lhs; whnf)) ?_ | refine r_assign (by conv => (lhs; whnf)) ?_ | refine r_nil ?_ | refine q_then ?_ | refine wp_skip ?_ | refine r_eql rfl rfl ?_ | refine wp_cond_no rfl (by omega) ?_)
  refine r_call (whole_c (hS.to k1) ha0 ha1) rfl ?_
  rintro v2 w2 ⟨k2, m2, rfl, h2⟩
  repeat (first | refine r_move (by conv => (lhs; whnf)) ?_)
  refine r_call (whole_c (hS.to (k1.trans k2)) hb0 hb1) rfl ?_
  rintro v3 w3 ⟨k3, m3, rfl, h3⟩
  replace h2 := h2.to k3
  have hk2 := k2.size
  have hk3 := k3.size
  have hgl := hg.lt
  replace hg := hg.to (k2.trans k3)
  have k := (k1.trans k2).trans k3
  replace hS := hS.to k
  clear k1 k2 k3
  refine r_alloc (cs := [.bool false, .slice none 0 0]) rfl ?_
  intro w4 ga k4 hga hgsa
  refine r_alloc (cs := [.bool false, .slice none 0 0]) rfl ?_
  intro w5 gb k5 hgb hgsb
  have hgal := hga.lt
  replace hga := hga.to k5
  replace h2 := h2.to (k4.trans k5)
  replace h3 := h3.to (k4.trans k5)
  replace hg := hg.to (k4.trans k5)
  replace hS := hS.to (k4.trans k5)
  have hk4 := k4.size
  refine r_store2 rfl rfl hga rfl h2.one ?_
  intro w6 k6 hga6
  refine r_store2 rfl rfl (hgb.wr k6 (by omega)) rfl h3.one ?_
  intro w7 k7 hgb7
  have hgb6 := hgb.wr k6 (by omega)
  replace h2 := (h2.wrT k6 hga (by decide)).wrT k7 hgb6 (by decide)
  replace h3 := (h3.wrT k6 hga (by decide)).wrT k7 hgb6 (by decide)
  replace hg := (hg.wr k6 (by omega)).wr k7 (by omega)
  replace hga := hga6.wr k7 (by omega)
  replace hgb := hgb7
  replace k : Ext w w7 := (Keeps.past ((k.trans k4).trans k5) k6 (by have := k.size; omega)).past k7 (by have := k.size; omega)
  replace hS : Up S w7 := fun i hi => hS i (by have := k6.size; have := k7.size; omega)
  have hla : dl a.natAbs ≤ 3 := dl_le (by omega)
  have hlb : dl b.natAbs ≤ 3 := dl_le (by omega)
  clear k4 k5 k6 k7
  repeat (first | refine wp_seq_region ?_ | refine r_nil ?_)
  refine wp_drawn 11 (by kernel_rfl) (by kernel_rfl) ?_
  apply ob_step
  · intro x w1 k1 hd
    refine r_field rfl ?_
    refine r_nil ?_
    exact ob_eq
  apply ob_step
  · intro x w1 k1 hd
    refine r_load_blk rfl (hga.to k1) rfl ?_
    refine r_nil ?_
    exact ob_eq
  apply ob_step
  · intro x w1 k1 hd
    refine r_field rfl ?_
    refine r_nil ?_
    exact ob_eq
  apply ob_step
  · intro x w1 k1 hd
    refine r_load_blk rfl (hgb.to k1) rfl ?_
    refine r_nil ?_
    exact ob_eq
  apply ob_step
  · intro x w1 k1 hd
    refine r_neqB rfl rfl ?_
    refine r_nil ?_
    exact ob_eq
  apply ob_step
  · intro x w1 k1 hd
    refine r_field rfl ?_
    refine r_nil ?_
    exact ob_eq
  apply ob_step
  · intro x w1 k1 hd
    refine r_load_blk rfl (hga.to k1) rfl ?_
    refine r_nil ?_
    exact ob_eq
  refine ob_step (e := intE S 127 .u32 (a * b.sign)) ?_ ?_
  · intro x w1 k1 hd
    refine r_call (signed_c (a * b.sign) (h2.to k1) (mul_sgn_abs a b hb) (mul_sgn_sign a b hb)) rfl ?_
    rintro v2 w2 ⟨k2, h2⟩
    exact r_nil (ob_of k2 h2)
  apply ob_step
  · intro x w1 k1 hd
    refine r_field rfl ?_
    refine r_nil ?_
    exact ob_eq
  apply ob_step
  · intro x w1 k1 hd
    refine r_load_blk rfl (hgb.to k1) rfl ?_
    refine r_nil ?_
    exact ob_eq
  refine ob_step (e := ratE S (mkRat (a * b.sign) b.natAbs)) ?_ ?_
  · intro x w1 k1 hd
    refine r_call (reduced_c (hS.to k1) hd.2.2.1 (h3.to k1) (by omega) (by unfold zl; rw [mul_sgn_abs a b hb]; omega) (by omega)) rfl ?_
    rintro v2 w2 ⟨k2, h2⟩
    exact r_nil (ob_of k2 h2)
  refine ob_nil (ob_end ?_)
  intro x w8 k8 hall
  obtain ⟨m5, b5, hv5, h5, h6⟩ := hall.1
  refine r_store3 rfl hv5 (hg.to k8) rfl rfl h5.one h6.one ?_
  intro w9 k9 hg9
  repeat (first | refine r_assign (by conv => (lhs; whnf)) ?_ | refine r_nil ?_ | refine q_then ?_ | refine wp_ret ?_)
  exact end2 rfl (resV_agg (by conv => (lhs; whnf)) hg9 rfl) (resV_tmp (by conv => (lhs; whnf))) ⟨_, rfl, Keeps.past (k.trans k8) k9 (by omega), m5, b5, rfl, h5.wrT k9 (hg.to k8) (by decide), h6.wrT k9 (hg.to k8) (by decide)⟩
end Go.Proofs.YtpmnjjmngogkkaaGreatDoor
end

section
set_option linter.unusedVariables false
set_option linter.unusedSimpArgs false
namespace Go.Proofs.YtpmnjjmngogkkaaGreatDoor
open Go Go.RowKit
/-- A deferred closure's contract, by how the frame that it was deferred in leaves. -/
def GivesD (P : Program) (f : FuncId) (args : List Value) (u : FrameMode) (w : World) (Φ : FrameMode → World → Prop) : Prop :=
  CallsD P f args.toArray u w fun e u' w' => (∃ v, e = .returned v) ∧ Φ u' w'
/-- How a body whose frame has one deferred closure ends. -/
def defQ (P : Program) (fn : Func) (Ψ : Value → World → Prop) (g : FuncId) (caps : List Value) : Post := fun e ρ w => match e with
  | .normal | .ret => GivesD P g caps .returning w fun u' w' => u' = .returning ∧ ∃ vs, resAll P ρ w' fn.results.toList vs ∧ Ψ (shut vs) w'
  | .panic ch => GivesD P g caps (.panicking ch) w fun u' w' => settle u' = .returning ∧ ∃ vs, resAll P ρ w' fn.results.toList vs ∧ Ψ (shut vs) w'
  | _ => False
def WpD (P : Program) (n : Nat) (c : Code) (Q : Exit → Act → World → Prop) (D : List Deferred) (ρ : Fr) (w : World) : Prop :=
  codeOk n c = true → ∀ a, Mt n D a ρ → c.wp P Q a w
def onlyQ : Post := fun _ _ _ => False
section
variable {P : Program} {n : Nat} {Q : Exit → Act → World → Prop} {D : List Deferred} {ρ : Fr} {w : World}
theorem wpD_seq {a b : Code} (h : Wp P n a (thenQ (fun ρ w => WpD P n b Q D ρ w) onlyQ) ρ w) : WpD P n (.seq a b) Q D ρ w := by
  intro hc act hm
  simp only [codeOk, Bool.and_eq_true] at hc
  unfold Wp at h
  refine Go.wp_seq (Go.wp_mono (h hc.1 _ act hm) ?_)
  rintro e a' w' ⟨ρ', hm', hq⟩
  cases e with
  | normal => exact hq hc.2 a' hm'
  | _ => exact hq.elim
theorem wpD_end {c : Code} {Q' : Post} (h : Wp P n c Q' ρ w) (k : ∀ e a ρ w, Mt n D a ρ → Q' e ρ w → Q e a w) : WpD P n c Q D ρ w := by
  intro hc act hm
  unfold Wp at h
  refine Go.wp_mono (h hc _ act hm) ?_
  rintro e a' w' ⟨ρ', hm', hq⟩
  exact k _ _ _ _ hm' hq
theorem wpD_seq_defer {j : Nat} {b : Code} {d : Tmp} {g : FuncId} {cap : List Operand} {ty ty2 : TypeId} {pos pos2 : String} {aft aft2 : Array Edge} {ts : Array TypeId}
    (h : WpD P n b Q (⟨.fn (.func g) (cap.map (ev ρ)).toArray, #[]⟩ :: D) (upd ρ d (.func (.func g) #[] (cap.map (ev ρ)).toArray)) w) :
    WpD P n (.seq (.region j #[⟨some d, .makeFunc (.func g) #[] cap.toArray, ty, pos, aft, none⟩, ⟨none, .defer ⟨.value (.tmp d), #[], ts⟩, ty2, pos2, aft2, none⟩] false) b) Q D ρ w := by
  intro hc act hm
  simp only [codeOk, Bool.and_eq_true] at hc
  have hd : Nat.blt d n = true := by
    have := hc.1
    simp [dstOk] at this
    simpa using this
  refine Go.wp_seq (wp_region_lit (l := [_, _]) ?_)
  refine wpList_plain rfl fun K hK => ?_
  unfold Oper.wp
  rw [hm.eval]
  have hr1 : (execOp (ev ρ) ⟨some d, .makeFunc (.func g) #[] cap.toArray, ty, pos, aft, none⟩).run P w = .ok (.value (.func (.func g) #[] (cap.map (ev ρ)).toArray)) w := by simp [execOp, Instr.makeFunc]
  rw [hr1]
  have hm2 := hm.put hd (.func (.func g) #[] (cap.map (ev ρ)).toArray)
  refine hK _ _ ?_
  refine wpList_plain rfl fun K2 hK2 => ?_
  unfold Oper.wp
  rw [hm2.eval]
  have hr2 : (execOp (ev (upd ρ d (.func (.func g) #[] (cap.map (ev ρ)).toArray))) ⟨none, .defer ⟨.value (.tmp d), #[], ts⟩, ty2, pos2, aft2, none⟩).run P w = .ok (.defer ⟨.fn (.func g) (cap.map (ev ρ)).toArray, #[]⟩) w := by
    simp [execOp, resolve, Deferred.ofValue, ev, upd_same]
  rw [hr2]
  refine hK2 _ _ (wpList_nil ?_)
  exact h hc.2 _ ⟨hm2.size, by show _ :: _ = _ :: _; rw [hm2.defers], hm2.get⟩
end
theorem gives_of_defer {P : Program} {f : FuncId} {fn : Func} {c : Code} {args : List Value} {w : World} {Ψ : Value → World → Prop}
    (hf : P.funcs[f]? = some fn) (hb : fn.body = some c) (hok : codeOk fn.ntmps c = true) (hn0 : Nat.ble args.length fn.ntmps = true)
    (h : WpD P fn.ntmps c (bodyPostD P fn fun e w' => ∃ v, e = .returned v ∧ Ψ v w') [] (fun i => args.getD i undef) w) : Gives P f args w Ψ :=
  calls_of_wp_defers hf hb (h hok _ (frame_mt fn hn0))
theorem defQ_end {P : Program} {fn : Func} {Ψ : Value → World → Prop} {g : FuncId} {caps : List Value} [ci : CallI P g] {e : Exit} {a : Act} {ρ : Fr} {w : World}
    (hm : Mt fn.ntmps [⟨.fn (.func g) caps.toArray, #[]⟩] a ρ) (h : defQ P fn Ψ g caps e ρ w) : bodyPostD P fn (fun e w' => ∃ v, e = .returned v ∧ Ψ v w') e a w := by
  have hi : (invoke (.fn (.func g) caps.toArray) #[]).run P w = .ok (.enter g caps.toArray) w := by simp [invoke, ci.run]
  have hret : ∀ w', (∃ vs, resAll P ρ w' fn.results.toList vs ∧ Ψ (shut vs) w') → Leaves P fn a.tmps (fun e w' => ∃ v, e = .returned v ∧ Ψ v w') [] .returning w' := by
    rintro w' ⟨vs, hr, hv⟩
    exact ⟨_, results_run hm hr, _, rfl, hv⟩
  have hn : (h : GivesD P g caps .returning w fun u' w' => u' = .returning ∧ ∃ vs, resAll P ρ w' fn.results.toList vs ∧ Ψ (shut vs) w') → Leaves P fn a.tmps (fun e w' => ∃ v, e = .returned v ∧ Ψ v w') a.defers .returning w := by
    intro h
    rw [hm.defers]
    refine leaves_cons (by simp) hi (CallsD.mono h ?_)
    rintro e u' w' ⟨⟨v, rfl⟩, rfl, hv⟩
    exact hret w' hv
  cases e with
  | normal => exact hn h
  | ret => exact hn h
  | panic ch =>
    show Leaves P fn a.tmps _ a.defers (.panicking ch) w
    rw [hm.defers]
    refine leaves_cons (by simp) hi (CallsD.mono h ?_)
    rintro e u' w' ⟨⟨v, rfl⟩, hs, hv⟩
    show Leaves P fn a.tmps _ [] (settle u') w'
    rw [hs]
    exact hret w' hv
  | _ => exact h.elim
/-- How a deferred closure's body ends. -/
def retQ (P : Program) (fn : Func) (K : World → Prop) : Post := fun e ρ w => match e with
  | .normal | .ret => ∃ vs, resAll P ρ w fn.results.toList vs ∧ K w
  | _ => False
theorem opsS_rec {P : Program} {ops : Array Oper} {Q : Exit → Act → List Frame → World → Prop} {i : Nat} {rest : List Nat} {a : Act} {cs : List Frame} {w w' : World} {o : Oper} (h0 : ops[i]? = some o) (hg : o.guard = none)
    (hr : (execOp a.eval o).run P w = .ok .recover w')
    (h : match recoverD cs with | some (v, cs') => wpOpsS P ops Q rest (a.put o.dst v) cs' w' | none => wpOpsS P ops Q rest (a.put o.dst .nilIface) cs w') : wpOpsS P ops Q (i :: rest) a cs w := by
  unfold wpOpsS
  simp only [h0, Region.wanted, hg, hr, if_true]
  exact h
theorem opsS_val {P : Program} {ops : Array Oper} {Q : Exit → Act → List Frame → World → Prop} {i : Nat} {rest : List Nat} {a : Act} {cs : List Frame} {w w' : World} {o : Oper} {v : Value} (h0 : ops[i]? = some o) (hg : o.guard = none)
    (hr : (execOp a.eval o).run P w = .ok (.value v) w') (h : wpOpsS P ops Q rest (a.put o.dst v) cs w') : wpOpsS P ops Q (i :: rest) a cs w := by
  unfold wpOpsS
  simp only [h0, Region.wanted, hg, hr, if_true, Oper.upon]
  exact h
/-- A deferred closure that begins with recover(). -/
theorem givesD_recover {P : Program} {f : FuncId} {fn : Func} {j : Nat} {d1 d2 : Tmp} {ty ty2 : TypeId} {pos pos2 : String} {aft aft2 : Array Edge} {c1 : Code} {args : List Value} {u u2 : FrameMode} {v : Value} {w : World} {Φ : FrameMode → World → Prop}
    (hf : P.funcs[f]? = some fn)
    (hb : fn.body = some (.seq (.region j #[⟨some d1, .call ⟨.builtin .recover, #[], #[]⟩, ty, pos, aft, none⟩, ⟨some d2, .assign (.tmp d1), ty2, pos2, aft2, none⟩] false) c1))
    (hn0 : Nat.ble args.length fn.ntmps = true) (hd1 : Nat.blt d1 fn.ntmps = true) (hd2 : Nat.blt d2 fn.ntmps = true) (hok : codeOk fn.ntmps c1 = true)
    (hu : (u = .returning ∧ u2 = .returning ∧ v = .nilIface) ∨ ∃ x, u = .panicking [{ v := x, recovered := false }] ∧ u2 = .panicking [{ v := x, recovered := true }] ∧ v = x)
    (h : Wp P fn.ntmps c1 (retQ P fn (Φ u2)) (upd (upd (fun i => args.getD i undef) d1 v) d2 v) w) : GivesD P f args u w Φ := by
  refine callsD_of_wpS hf hb fun c₀ cs hm => ?_
  have m0 := frame_mt fn hn0
  have m1 := m0.put hd1 v
  have m2 := m1.put hd2 v
  refine wpS_seq (wpS_region ?_)
  have hrange : List.range (#[(⟨some d1, .call ⟨.builtin .recover, #[], #[]⟩, ty, pos, aft, none⟩ : Oper), ⟨some d2, .assign (.tmp d1), ty2, pos2, aft2, none⟩]).size = [0, 1] := rfl
  rw [hrange]
  have hrest : ∀ cs', cs' = { c₀ with mode := u2 } :: cs → Code.wpS P c1 (bodyPostS P fn c₀ cs fun e u' w' => (∃ v, e = .returned v) ∧ Φ u' w')
      (({ tmps := args.toArray ++ Array.replicate (fn.ntmps - args.toArray.size) undef, defers := [] } : Act).put (some d1) v |>.put (some d2) v) cs' w := by
    rintro cs' rfl
    refine wpS_of_wp ?_
    unfold Wp at h
    refine Go.wp_mono (h hok _ _ m2) ?_
    rintro e a w' ⟨ρ, hm', hq⟩
    cases e with
    | normal => obtain ⟨vs, hr, hv⟩ := hq; exact ⟨hm'.defers, u2, rfl, _, results_run hm' hr, ⟨_, rfl⟩, hv⟩
    | ret => obtain ⟨vs, hr, hv⟩ := hq; exact ⟨hm'.defers, u2, rfl, _, results_run hm' hr, ⟨_, rfl⟩, hv⟩
    | _ => exact hq.elim
  have hr0 : ∀ ρ : Operand → Value, (execOp ρ ⟨some d1, .call ⟨.builtin .recover, #[], #[]⟩, ty, pos, aft, none⟩).run P w = .ok .recover w := fun ρ => by
    simp [execOp, resolve, invoke, builtin]
  have hr1 : (execOp (({ tmps := args.toArray ++ Array.replicate (fn.ntmps - args.toArray.size) undef, defers := [] } : Act).put (some d1) v).eval ⟨some d2, .assign (.tmp d1), ty2, pos2, aft2, none⟩).run P w = .ok (.value v) w := by
    rw [m1.eval]
    simp [execOp, ev, upd_same]
  have hrec : (match recoverD (c₀ :: cs) with | some (v', cs') => v' = v ∧ cs' = { c₀ with mode := u2 } :: cs | none => v = .nilIface ∧ c₀ :: cs = { c₀ with mode := u2 } :: cs) := by
    rcases hu with ⟨rfl, rfl, rfl⟩ | ⟨x, rfl, rfl, rfl⟩
    · simp only [recoverD, hm]
      refine ⟨trivial, ?_⟩
      congr 1
      rw [← hm]
    · simp only [recoverD, hm]
      first | exact ⟨trivial, trivial⟩ | exact ⟨trivial, rfl⟩
  refine opsS_rec (o := ⟨some d1, .call ⟨.builtin .recover, #[], #[]⟩, ty, pos, aft, none⟩) rfl rfl (hr0 _) ?_
  cases hr : recoverD (c₀ :: cs) with
  | none =>
    rw [hr] at hrec
    obtain ⟨hv, hcs⟩ := hrec
    subst hv
    exact opsS_val (o := ⟨some d2, .assign (.tmp d1), ty2, pos2, aft2, none⟩) rfl rfl hr1 (hrest _ hcs)
  | some p =>
    obtain ⟨v', cs'⟩ := p
    rw [hr] at hrec
    obtain ⟨hv, hcs⟩ := hrec
    subst hv
    exact opsS_val (o := ⟨some d2, .assign (.tmp d1), ty2, pos2, aft2, none⟩) rfl rfl hr1 (hrest _ hcs)
end Go.Proofs.YtpmnjjmngogkkaaGreatDoor
end

section
set_option linter.unusedVariables false
set_option linter.unusedSimpArgs false
namespace Go.Proofs.YtpmnjjmngogkkaaGreatDoor
open Go Go.RowKit
def tooBig : List PanicEntry := [{ v := .iface 180 (.agg #[]), recovered := false }]
theorem ikept_c {S : Nat → Prop} {w : World} {v : Value} {z : Int} (hS : Up S w) (h : IntV S 127 .u32 w v z) :
    GivesE Tryz.prog 91 [v] w (fun v' w' => v' = v ∧ Ext w w' ∧ z.natAbs < Big) fun ch w' => ch = tooBig ∧ Ext w w' ∧ ¬ z.natAbs < Big := by
  obtain ⟨m, rfl, hm⟩ := h
  refine givesE_of Tryz.func91 rfl rfl rfl ?_
  repeat (first | refine wp_seq_region ?_ | refine wp_region ?_)
  refine r_box (cs := [.bool (tst (z < 0)), m]) (by conv => (lhs; whnf)) rfl ?_
  intro w1 g k1 hg hgs
  skip
  refine r_alloc (cs := [.bool false, .slice none 0 0]) rfl ?_
  intro w2 g2 k2 hg2 hgs2
  have hgl := hg.lt
  replace hg := hg.to k2
  have k := k1.trans k2
  repeat (first | refine r_load_blk rfl hg rfl ?_ | refine wp_seq_region ?_ | refine wp_seq_seq ?_ | refine wp_region ?_ | refine r_nil ?_ | refine r_field rfl ?_)
  refine r_call (isSmall_c (hS.to k) (hm.to k)) rfl ?_
  rintro v3 w3 ⟨rfl, k3⟩
  repeat (first | refine r_nil ?_ | refine q_then ?_ | refine r_notB rfl ?_)
  try refine wp_seq_cond ?_
  refine wp_cond_dec rfl ?_ ?_ <;> intro hc
  · repeat (first | refine wp_region ?_)
    refine r_build0 (cs := []) rfl ?_
    refine r_iface rfl ?_
    refine r_panic rfl ?_
    refine q_then_panic (endE_panic ⟨rfl, k.trans k3, hc⟩)
  · repeat (first | refine r_load_all rfl (hg.to k3) rfl ?_ | refine wp_seq_region ?_ | refine wp_region ?_ | refine wp_skip ?_)
    refine r_store2 rfl (by conv => (lhs; whnf)) (hg2.to k3) rfl hm.one ?_
    intro w4 k4 hg4
    repeat (first | refine r_nil ?_ | refine q_then ?_ | refine wp_ret ?_)
    exact endE_of (end1 rfl (resV_agg (by conv => (lhs; whnf)) hg4 rfl) ⟨rfl, Keeps.past (k.trans k3) k4 (by have := k1.size; omega), Classical.not_not.1 hc⟩)
/-- Both parts are small. -/
def Fits (q : Rat) : Prop := q.num.natAbs < Big ∧ q.den < Big
theorem rkept_c {S : Nat → Prop} {w : World} {v : Value} {q : Rat} (hS : Up S w) (h : RatV S w v q) :
    GivesE Tryz.prog 106 [v] w (fun v' w' => v' = v ∧ Ext w w' ∧ Fits q) fun ch w' => ch = tooBig ∧ Ext w w' ∧ ¬ Fits q := by
  have h0 := h
  obtain ⟨m, b, rfl, hm, hb⟩ := h
  refine givesE_of Tryz.func106 rfl rfl rfl ?_
  repeat (first | refine wp_seq_region ?_ | refine wp_region ?_)
  refine r_box (cs := [.bool (tst (q.num < 0)), m, b]) (by conv => (lhs; whnf)) rfl ?_
  intro w1 g k1 hg hgs
  skip
  refine r_alloc (cs := [.bool false, .slice none 0 0, .slice none 0 0]) rfl ?_
  intro w2 g2 k2 hg2 hgs2
  have hgl := hg.lt
  replace hg := hg.to k2
  have k := k1.trans k2
  have hk1 := k1.size
  replace hS := hS.to k
  replace h0 := h0.to k
  repeat (first | refine r_load_part rfl hg rfl rfl ?_ | refine wp_seq_region ?_ | refine wp_region ?_ | refine r_nil ?_ | refine r_field rfl ?_)
  refine r_callE (ikept_c (z := q.num) hS ⟨m, rfl, hm.to k⟩) rfl ?_ ?_
  · rintro v3 w3 ⟨_, k3, hf⟩
    repeat (first | refine r_load_all rfl (hg.to k3) rfl ?_ | refine wp_seq_region ?_ | refine wp_region ?_ | refine r_nil ?_)
    refine r_call (den_c (hS.to k3) (h0.to k3)) rfl ?_
    rintro v4 w4 ⟨k4, h4⟩
    refine r_call (signed0_c h4) rfl ?_
    rintro v5 w5 ⟨k5, h5⟩
    refine r_callE (ikept_c (z := (q.den : Int)) (hS.to ((k3.trans k4).trans k5)) h5) rfl ?_ ?_
    · rintro v6 w6 ⟨_, k6, hf2⟩
      have k36 := ((k3.trans k4).trans k5).trans k6
      repeat (first | refine r_load_all rfl (hg.to k36) rfl ?_ | refine wp_seq_region ?_ | refine wp_region ?_ | refine r_nil ?_)
      refine r_store3 rfl (by conv => (lhs; whnf)) (hg2.to k36) rfl rfl hm.one hb.one ?_
      intro w7 k7 hg7
      repeat (first | refine r_nil ?_ | refine q_then ?_ | refine wp_ret ?_)
      exact endE_of (end1 rfl (resV_agg (by conv => (lhs; whnf)) hg7 rfl) ⟨rfl, Keeps.past (k.trans k36) k7 (by omega), hf, by rwa [Int.natAbs_natCast] at hf2⟩)
    · rintro ch w6 ⟨rfl, k6, hf2⟩
      exact q_then_panic (endE_panic ⟨rfl, ((k.trans k3).trans k4).trans (k5.trans k6), fun h => hf2 (by rw [Int.natAbs_natCast]; exact h.2)⟩)
  · rintro ch w3 ⟨rfl, k3, hf⟩
    exact q_then_panic (endE_panic ⟨rfl, k.trans k3, fun h => hf h.1⟩)
/-- What the deferred closure does: nothing, or it gives 0 and the error. -/
theorem rcatch_idle {w : World} {g1 g2 : Nat} : GivesD Tryz.prog 151 [.pointer (some ⟨g1, 0, none⟩), .pointer (some ⟨g2, 0, none⟩)] .returning w fun u' w' => u' = .returning ∧ w' = w := by
  refine givesD_recover Tryz.func151 rfl rfl rfl rfl rfl (.inl ⟨rfl, rfl, rfl⟩) ?_
  repeat (first | refine r_neq_nilIface rfl ?_ | refine wp_seq_region ?_ | refine wp_region ?_ | refine r_move (by conv => (lhs; whnf)) ?_ | refine r_nil ?_ | refine q_then ?_ | refine wp_skip ?_ | refine wp_cond_false rfl ?_)
  exact ⟨[], rfl, rfl, rfl⟩
theorem rcatch_big {w : World} {g1 g2 : Nat} {cs1 : List Value} {e : Value} (h1 : Blk w g1 34 cs1) (hl : cs1.length = 3) (h2 : Blk w g2 38 [e]) :
    GivesD Tryz.prog 151 [.pointer (some ⟨g1, 0, none⟩), .pointer (some ⟨g2, 0, none⟩)] (.panicking tooBig) w fun u' w' => settle u' = .returning ∧
      Keeps (fun k => k ≠ g1 ∧ k ≠ g2) w w' ∧ Blk w' g1 34 [.bool false, .slice none 0 0, .slice none 0 0] ∧ Blk w' g2 38 [.int .i64 11] := by
  have hne : g1 ≠ g2 := h1.ne h2 (by decide)
  refine givesD_recover Tryz.func151 rfl rfl rfl rfl rfl (.inr ⟨_, rfl, rfl, rfl⟩) ?_
  repeat (first | refine r_neq_iface rfl ?_ | refine r_assert rfl ?_ | refine wp_seq_region ?_ | refine wp_seq_seq ?_ | refine wp_region ?_ | refine r_move (by conv => (lhs; whnf)) ?_ | refine r_nil ?_ | refine q_then ?_ | refine r_extract rfl rfl ?_ | refine wp_cond_true rfl ?_)
  refine r_alloc (cs := []) rfl ?_
  intro w1 g3 k1 hg3 hgs3
  have hl1 := h1.lt
  have hl2 := h2.lt
  refine r_store_all (us := []) rfl (by conv => (lhs; whnf)) rfl rfl hg3 rfl (fun v hv => by cases hv) ?_
  intro w2 k2 hg32
  repeat (first | refine r_not rfl ?_ | refine wp_seq_region ?_ | refine wp_region ?_ | refine r_move (by conv => (lhs; whnf)) ?_ | refine r_assign (by conv => (lhs; whnf)) ?_ | refine r_nil ?_ | refine q_then ?_ | refine wp_skip ?_ | refine wp_cond_false rfl ?_)
  refine r_alloc (cs := [.bool false, .slice none 0 0, .slice none 0 0]) rfl ?_
  intro w3 g5 k3 hg5 hgs5
  have k : Ext w w3 := (Keeps.past k1 k2 hgs3).trans k3
  repeat (first | refine r_load_all rfl hg5 rfl ?_ | refine wp_region ?_ | refine r_nil ?_)
  refine r_store3 rfl (by conv => (lhs; whnf)) (h1.to k) hl rfl rfl rfl ?_
  intro w4 k4 h14
  skip
  refine r_store (u := .int .i64 11) rfl rfl ((h2.to k).wr k4 (fun e => hne e.symm)) (show 0 < 1 by decide) rfl ?_
  intro w5 k5 h25
  repeat (first | refine r_nil ?_)
  refine ⟨[], rfl, rfl, ?_, h14.wr k5 hne, h25⟩
  exact ((Keeps.of k).trans (k4.mono fun i hi => hi.1)).trans (k5.mono fun i hi => hi.2)
theorem icatch_idle {w : World} {g1 g2 : Nat} : GivesD Tryz.prog 142 [.pointer (some ⟨g1, 0, none⟩), .pointer (some ⟨g2, 0, none⟩)] .returning w fun u' w' => u' = .returning ∧ w' = w := by
  refine givesD_recover Tryz.func142 rfl rfl rfl rfl rfl (.inl ⟨rfl, rfl, rfl⟩) ?_
  repeat (first | refine r_neq_nilIface rfl ?_ | refine wp_seq_region ?_ | refine wp_region ?_ | refine r_move (by conv => (lhs; whnf)) ?_ | refine r_nil ?_ | refine q_then ?_ | refine wp_skip ?_ | refine wp_cond_false rfl ?_)
  exact ⟨[], rfl, rfl, rfl⟩
theorem icatch_big {w : World} {g1 g2 : Nat} {cs1 : List Value} {e : Value} (h1 : Blk w g1 26 cs1) (hl : cs1.length = 2) (h2 : Blk w g2 38 [e]) :
    GivesD Tryz.prog 142 [.pointer (some ⟨g1, 0, none⟩), .pointer (some ⟨g2, 0, none⟩)] (.panicking tooBig) w fun u' w' => settle u' = .returning ∧
      Keeps (fun k => k ≠ g1 ∧ k ≠ g2) w w' ∧ Blk w' g1 26 [.bool false, .slice none 0 0] ∧ Blk w' g2 38 [.int .i64 11] := by
  have hne : g1 ≠ g2 := h1.ne h2 (by decide)
  refine givesD_recover Tryz.func142 rfl rfl rfl rfl rfl (.inr ⟨_, rfl, rfl, rfl⟩) ?_
  repeat (first | refine r_neq_iface rfl ?_ | refine r_assert rfl ?_ | refine wp_seq_region ?_ | refine wp_seq_seq ?_ | refine wp_region ?_ | refine r_move (by conv => (lhs; whnf)) ?_ | refine r_nil ?_ | refine q_then ?_ | refine r_extract rfl rfl ?_ | refine wp_cond_true rfl ?_)
  refine r_alloc (cs := []) rfl ?_
  intro w1 g3 k1 hg3 hgs3
  have hl1 := h1.lt
  have hl2 := h2.lt
  refine r_store_all (us := []) rfl (by conv => (lhs; whnf)) rfl rfl hg3 rfl (fun v hv => by cases hv) ?_
  intro w2 k2 hg32
  repeat (first | refine r_not rfl ?_ | refine wp_seq_region ?_ | refine wp_region ?_ | refine r_move (by conv => (lhs; whnf)) ?_ | refine r_assign (by conv => (lhs; whnf)) ?_ | refine r_nil ?_ | refine q_then ?_ | refine wp_skip ?_ | refine wp_cond_false rfl ?_)
  refine r_alloc (cs := [.bool false, .slice none 0 0]) rfl ?_
  intro w3 g5 k3 hg5 hgs5
  have k : Ext w w3 := (Keeps.past k1 k2 hgs3).trans k3
  repeat (first | refine r_load_all rfl hg5 rfl ?_ | refine wp_region ?_ | refine r_nil ?_)
  refine r_store_all (us := [.bool false, .slice none 0 0]) rfl (by conv => (lhs; whnf)) rfl rfl (h1.to k) hl (ones2 rfl rfl) ?_
  intro w4 k4 h14
  skip
  refine r_store (u := .int .i64 11) rfl rfl ((h2.to k).wr k4 (fun e => hne e.symm)) (show 0 < 1 by decide) rfl ?_
  intro w5 k5 h25
  repeat (first | refine r_nil ?_)
  refine ⟨[], rfl, rfl, ?_, h14.wr k5 hne, h25⟩
  exact ((Keeps.of k).trans (k4.mono fun i hi => hi.1)).trans (k5.mono fun i hi => hi.2)
end Go.Proofs.YtpmnjjmngogkkaaGreatDoor
end

section
set_option linter.unusedVariables false
set_option linter.unusedSimpArgs false
namespace Go.Proofs.YtpmnjjmngogkkaaGreatDoor
open Go Go.RowKit
theorem GivesD.mono {P : Program} {f : FuncId} {args : List Value} {u : FrameMode} {w : World} {Φ Φ' : FrameMode → World → Prop} (h : GivesD P f args u w Φ) (k : ∀ u' w', Φ u' w' → Φ' u' w') : GivesD P f args u w Φ' :=
  CallsD.mono h fun e u' w' ⟨he, hp⟩ => ⟨he, k _ _ hp⟩
/-- v and e are q, or 0 and the error. -/
def Tried (S : Nat → Prop) (w : World) (v : Value) (q : Rat) : Prop :=
  ∃ r e, v = .tuple #[r, .int .i64 e] ∧ (Fits q ∧ e = 0 ∧ RatV S w r q ∨ ¬ Fits q ∧ e = 11 ∧ RatV S w r 0)
theorem zero_rat {S : Nat → Prop} {w : World} : RatV S w (.agg #[.bool false, .slice none 0 0, .slice none 0 0]) 0 := ⟨_, _, by rw [tst_false (by decide)], .nil, .nil⟩
theorem rattempt_c {S : Nat → Prop} {w : World} {v : Value} {q : Rat} (hS : Up S w) (h : RatV S w v q) :
    Gives Tryz.prog 104 [.func (.func 106) #[v] #[]] w fun v' w' => Ext w w' ∧ Tried S w' v' q := by
  refine gives_of_defer Tryz.func104 rfl rfl rfl ?_
  refine wpD_seq ?_
  repeat (first | refine wp_region ?_)
  refine r_alloc (cs := [.bool false, .slice none 0 0, .slice none 0 0]) rfl ?_
  intro w1 g1 k1 hg1 hgs1
  skip
  refine r_alloc (cs := [.int .i64 0]) rfl ?_
  intro w2 g2 k2 hg2 hgs2
  have hgl := hg1.lt
  replace hg1 := hg1.to k2
  have k := k1.trans k2
  have hk1 := k1.size
  repeat (first | refine r_nil ?_ | refine q_then ?_)
  refine wpD_seq_defer ?_
  refine wpD_end ?_ (fun e a ρ w hm hq => defQ_end hm hq)
  repeat (first | refine wp_seq_region ?_ | refine wp_region ?_ | refine r_move (by conv => (lhs; whnf)) ?_)
  refine r_callvE (first := [v]) (cap := []) rfl (rkept_c (hS.to k) (h.to k)) rfl ?_ ?_
  · rintro v3 w3 ⟨rfl, k3, hf⟩
    have h3 := h.to (k.trans k3)
    obtain ⟨m, b, hv, hm, hb⟩ := h3
    skip
    refine r_store3 rfl hv (hg1.to k3) rfl rfl hm.one hb.one ?_
    intro w4 k4 hg4
    have hg24 := (hg2.to k3).wr k4 (by omega)
    refine r_store (u := .int .i64 0) rfl rfl hg24 (show 0 < 1 by decide) rfl ?_
    intro w5 k5 hg5
    have hg45 := hg4.wr k5 (by omega)
    repeat (first | refine r_nil ?_ | refine q_then ?_ | refine wp_ret ?_)
    refine rcatch_idle.mono ?_
    rintro u' w' ⟨rfl, rfl⟩
    refine ⟨rfl, [.agg #[.bool (tst (q.num < 0)), m, b], .int .i64 0], ⟨_, _, resV_agg (by conv => (lhs; whnf)) hg45 rfl, ⟨_, _, resV_one (by conv => (lhs; whnf)) hg5, rfl, rfl⟩, rfl⟩, ?_⟩
    exact ⟨((Keeps.past (k.trans k3) k4 (by omega)).past k5 (by omega)), _, _, rfl, .inl ⟨hf, rfl, m, b, rfl, (hm.wrT k4 (hg1.to k3) (by decide)).wrT k5 hg24 (by decide), (hb.wrT k4 (hg1.to k3) (by decide)).wrT k5 hg24 (by decide)⟩⟩
  · rintro ch w3 ⟨rfl, k3, hf⟩
    refine q_then_panic ?_
    refine (rcatch_big (hg1.to k3) rfl (hg2.to k3)).mono ?_
    rintro u' w' ⟨hu, k4, h1, h2⟩
    refine ⟨hu, [.agg #[.bool false, .slice none 0 0, .slice none 0 0], .int .i64 11], ⟨_, _, resV_agg (by conv => (lhs; whnf)) h1 rfl, ⟨_, _, resV_one (by conv => (lhs; whnf)) h2, rfl, rfl⟩, rfl⟩, ?_⟩
    exact ⟨Keeps.later (k.trans k3) k4 (fun i hi _ => ⟨by omega, by omega⟩), _, _, rfl, .inr ⟨hf, rfl, zero_rat⟩⟩
def ITried (S : Nat → Prop) (w : World) (v : Value) (z : Int) : Prop :=
  ∃ r e, v = .tuple #[r, .int .i64 e] ∧ (z.natAbs < Big ∧ e = 0 ∧ IntV S 127 .u32 w r z ∨ ¬ z.natAbs < Big ∧ e = 11 ∧ IntV S 127 .u32 w r 0)
theorem zero_int {S : Nat → Prop} {w : World} : IntV S 127 .u32 w (.agg #[.bool false, .slice none 0 0]) 0 := ⟨_, by rw [tst_false (by decide)], .nil⟩
theorem iattempt_c {S : Nat → Prop} {w : World} {v : Value} {q : Int} (hS : Up S w) (h : IntV S 127 .u32 w v q) :
    Gives Tryz.prog 89 [.func (.func 91) #[v] #[]] w fun v' w' => Ext w w' ∧ ITried S w' v' q := by
  refine gives_of_defer Tryz.func89 rfl rfl rfl ?_
  refine wpD_seq ?_
  repeat (first | refine wp_region ?_)
  refine r_alloc (cs := [.bool false, .slice none 0 0]) rfl ?_
  intro w1 g1 k1 hg1 hgs1
  skip
  refine r_alloc (cs := [.int .i64 0]) rfl ?_
  intro w2 g2 k2 hg2 hgs2
  have hgl := hg1.lt
  replace hg1 := hg1.to k2
  have k := k1.trans k2
  have hk1 := k1.size
  repeat (first | refine r_nil ?_ | refine q_then ?_)
  refine wpD_seq_defer ?_
  refine wpD_end ?_ (fun e a ρ w hm hq => defQ_end hm hq)
  repeat (first | refine wp_seq_region ?_ | refine wp_region ?_ | refine r_move (by conv => (lhs; whnf)) ?_)
  refine r_callvE (first := [v]) (cap := []) rfl (ikept_c (hS.to k) (h.to k)) rfl ?_ ?_
  · rintro v3 w3 ⟨rfl, k3, hf⟩
    have h3 := h.to (k.trans k3)
    obtain ⟨m, hv, hm⟩ := h3
    skip
    refine r_store2 rfl hv (hg1.to k3) rfl hm.one ?_
    intro w4 k4 hg4
    have hg24 := (hg2.to k3).wr k4 (by omega)
    refine r_store (u := .int .i64 0) rfl rfl hg24 (show 0 < 1 by decide) rfl ?_
    intro w5 k5 hg5
    have hg45 := hg4.wr k5 (by omega)
    repeat (first | refine r_nil ?_ | refine q_then ?_ | refine wp_ret ?_)
    refine icatch_idle.mono ?_
    rintro u' w' ⟨rfl, rfl⟩
    refine ⟨rfl, [.agg #[.bool (tst (q < 0)), m], .int .i64 0], ⟨_, _, resV_agg (by conv => (lhs; whnf)) hg45 rfl, ⟨_, _, resV_one (by conv => (lhs; whnf)) hg5, rfl, rfl⟩, rfl⟩, ?_⟩
    exact ⟨((Keeps.past (k.trans k3) k4 (by omega)).past k5 (by omega)), _, _, rfl, .inl ⟨hf, rfl, m, rfl, (hm.wrT k4 (hg1.to k3) (by decide)).wrT k5 hg24 (by decide)⟩⟩
  · rintro ch w3 ⟨rfl, k3, hf⟩
    refine q_then_panic ?_
    refine (icatch_big (hg1.to k3) rfl (hg2.to k3)).mono ?_
    rintro u' w' ⟨hu, k4, h1, h2⟩
    refine ⟨hu, [.agg #[.bool false, .slice none 0 0], .int .i64 11], ⟨_, _, resV_agg (by conv => (lhs; whnf)) h1 rfl, ⟨_, _, resV_one (by conv => (lhs; whnf)) h2, rfl, rfl⟩, rfl⟩, ?_⟩
    exact ⟨Keeps.later (k.trans k3) k4 (fun i hi _ => ⟨by omega, by omega⟩), _, _, rfl, .inr ⟨hf, rfl, zero_int⟩⟩
theorem radd_c {S : Nat → Prop} {w : World} {va vb : Value} {a b : Rat} (hS : Up S w) (ha : RatV S w va a) (hb : RatV S w vb b) (hla : rl a 400000000000) (hlb : rl b 400000000000) :
    Gives Tryz.prog 39 [va, vb] w fun v' w' => Ext w w' ∧ Tried S w' v' (a + b) := by
  have ha0 := ha
  have hb0 := hb
  obtain ⟨ma, ba, rfl, hma, hba⟩ := ha
  obtain ⟨mb, bb, rfl, hmb, hbb⟩ := hb
  refine gives_of Tryz.func39 rfl rfl rfl ?_
  repeat (first | refine wp_seq_region ?_ | refine wp_region ?_)
  refine r_box (cs := [.bool (tst (a.num < 0)), ma, ba]) (by conv => (lhs; whnf)) rfl ?_
  intro w1 ga k1 hga hgsa
  skip
  refine r_box (cs := [.bool (tst (b.num < 0)), mb, bb]) (by conv => (lhs; whnf)) rfl ?_
  intro w2 gb k2 hgb hgsb
  skip
  refine r_alloc (cs := [.bool false, .slice none 0 0, .slice none 0 0]) rfl ?_
  intro w3 g k3 hg hgs
  replace hga := hga.to (k2.trans k3)
  replace hgb := hgb.to k3
  have k := (k1.trans k2).trans k3
  have hs := (k1.trans k2).size
  replace ha0 := ha0.to k
  replace hb0 := hb0.to k
  replace hma := hma.to k
  replace hmb := hmb.to k
  replace hba := hba.to k
  replace hbb := hbb.to k
  replace hS := hS.to k
  clear k1 k2 k3
  repeat (first | refine wp_seq_region ?_ | refine wp_region ?_ | refine r_assign (by conv => (lhs; whnf)) ?_ | refine r_nil ?_)
  repeat (first | refine r_load_all rfl hga rfl ?_ | refine r_load_all rfl hgb rfl ?_)
  refine r_call (rplus_c hS ha0 hb0 hla hlb) rfl ?_
  rintro v4 w4 ⟨k4, h4⟩
  repeat (first | refine r_func ?_)
  refine r_call (rattempt_c (hS.to k4) h4) rfl ?_
  rintro v5 w5 ⟨k5, r, e, rfl, hor⟩
  repeat (first | refine r_extract rfl rfl ?_)
  have k' := (k.trans k4).trans k5
  replace hg := (hg.to k4).to k5
  rcases hor with ⟨hf, rfl, m, b, rfl, hm, hb⟩ | ⟨hf, rfl, m, b, rfl, hm, hb⟩
  · refine r_store3 rfl rfl hg rfl rfl hm.one hb.one ?_
    intro w6 k6 hg6
    repeat (first | refine r_assign (by conv => (lhs; whnf)) ?_ | refine r_nil ?_ | refine q_then ?_ | refine wp_ret ?_)
    exact end2 rfl (resV_agg (by conv => (lhs; whnf)) hg6 rfl) (resV_tmp (by conv => (lhs; whnf))) ⟨Keeps.past k' k6 (by omega), _, _, rfl, .inl ⟨hf, rfl, m, b, rfl, hm.wrT k6 hg (by decide), hb.wrT k6 hg (by decide)⟩⟩
  · refine r_store3 rfl rfl hg rfl rfl hm.one hb.one ?_
    intro w6 k6 hg6
    repeat (first | refine r_assign (by conv => (lhs; whnf)) ?_ | refine r_nil ?_ | refine q_then ?_ | refine wp_ret ?_)
    exact end2 rfl (resV_agg (by conv => (lhs; whnf)) hg6 rfl) (resV_tmp (by conv => (lhs; whnf))) ⟨Keeps.past k' k6 (by omega), _, _, rfl, .inr ⟨hf, rfl, m, b, rfl, hm.wrT k6 hg (by decide), hb.wrT k6 hg (by decide)⟩⟩
theorem rquo_c {S : Nat → Prop} {w : World} {va vb : Value} {a b : Rat} (hS : Up S w) (ha : RatV S w va a) (hb : RatV S w vb b) (hla : rl a 400000000000) (hlb : rl b 400000000000) (hb0' : b.num ≠ 0) :
    Gives Tryz.prog 42 [va, vb] w fun v' w' => Ext w w' ∧ Tried S w' v' (a / b) := by
  have ha0 := ha
  have hb0 := hb
  obtain ⟨ma, ba, rfl, hma, hba⟩ := ha
  obtain ⟨mb, bb, rfl, hmb, hbb⟩ := hb
  refine gives_of Tryz.func42 rfl rfl rfl ?_
  repeat (first | refine wp_seq_region ?_ | refine wp_region ?_)
  refine r_box (cs := [.bool (tst (a.num < 0)), ma, ba]) (by conv => (lhs; whnf)) rfl ?_
  intro w1 ga k1 hga hgsa
  skip
  refine r_box (cs := [.bool (tst (b.num < 0)), mb, bb]) (by conv => (lhs; whnf)) rfl ?_
  intro w2 gb k2 hgb hgsb
  skip
  refine r_alloc (cs := [.bool false, .slice none 0 0, .slice none 0 0]) rfl ?_
  intro w3 g k3 hg hgs
  replace hga := hga.to (k2.trans k3)
  replace hgb := hgb.to k3
  have k := (k1.trans k2).trans k3
  have hs := (k1.trans k2).size
  replace ha0 := ha0.to k
  replace hb0 := hb0.to k
  replace hma := hma.to k
  replace hmb := hmb.to k
  replace hba := hba.to k
  replace hbb := hbb.to k
  replace hS := hS.to k
  clear k1 k2 k3
  repeat (first | refine wp_seq_region ?_ | refine wp_seq_seq ?_ | refine wp_region ?_ | refine r_assign (by conv => (lhs; whnf)) ?_ | refine r_nil ?_)
  repeat (first | refine r_load_all rfl hgb rfl ?_)
  refine r_call (rsign_c hb0) rfl ?_
  rintro v3 w3 ⟨rfl, k3⟩
  replace hS := hS.to k3
  replace hga := hga.to k3
  replace hgb := hgb.to k3
  replace hg := hg.to k3
  replace ha0 := ha0.to k3
  replace hb0 := hb0.to k3
  replace k := k.trans k3
  have hsg : b.num.sign ≠ 0 := fun h => hb0' (Int.sign_eq_zero_iff_zero.1 h)
  repeat (first | refine r_load_all rfl hga rfl ?_ | refine r_load_all rfl hgb rfl ?_ | refine wp_seq_region ?_ | refine wp_region ?_ | refine r_nil ?_ | refine q_then ?_ | refine wp_skip ?_ | refine r_eql rfl rfl ?_ | refine wp_cond_no rfl (by omega) ?_)
  refine r_call (rover_c hS ha0 hb0 hla hlb hb0') rfl ?_
  rintro v4 w4 ⟨k4, h4⟩
  repeat (first | refine r_func ?_)
  refine r_call (rattempt_c (hS.to k4) h4) rfl ?_
  rintro v5 w5 ⟨k5, r, e, rfl, hor⟩
  repeat (first | refine r_extract rfl rfl ?_)
  have k' := (k.trans k4).trans k5
  replace hg := (hg.to k4).to k5
  rcases hor with ⟨hf, rfl, m, b, rfl, hm, hb⟩ | ⟨hf, rfl, m, b, rfl, hm, hb⟩
  · refine r_store3 rfl rfl hg rfl rfl hm.one hb.one ?_
    intro w6 k6 hg6
    repeat (first | refine r_assign (by conv => (lhs; whnf)) ?_ | refine r_nil ?_ | refine q_then ?_ | refine wp_ret ?_)
    exact end2 rfl (resV_agg (by conv => (lhs; whnf)) hg6 rfl) (resV_tmp (by conv => (lhs; whnf))) ⟨Keeps.past k' k6 (by omega), _, _, rfl, .inl ⟨hf, rfl, m, b, rfl, hm.wrT k6 hg (by decide), hb.wrT k6 hg (by decide)⟩⟩
  · refine r_store3 rfl rfl hg rfl rfl hm.one hb.one ?_
    intro w6 k6 hg6
    repeat (first | refine r_assign (by conv => (lhs; whnf)) ?_ | refine r_nil ?_ | refine q_then ?_ | refine wp_ret ?_)
    exact end2 rfl (resV_agg (by conv => (lhs; whnf)) hg6 rfl) (resV_tmp (by conv => (lhs; whnf))) ⟨Keeps.past k' k6 (by omega), _, _, rfl, .inr ⟨hf, rfl, m, b, rfl, hm.wrT k6 hg (by decide), hb.wrT k6 hg (by decide)⟩⟩
theorem iadd_c {S : Nat → Prop} {w : World} {va vb : Value} {a b : Int} (hS : Up S w) (ha : IntV S 127 .u32 w va a) (hb : IntV S 127 .u32 w vb b) (hla : zl a ≤ 1099511627000) (hlb : zl b ≤ 1099511627000) :
    Gives Tryz.prog 24 [va, vb] w fun v' w' => Ext w w' ∧ ITried S w' v' (a + b) := by
  obtain ⟨ma, rfl, hma⟩ := ha
  obtain ⟨mb, rfl, hmb⟩ := hb
  refine gives_of Tryz.func24 rfl rfl rfl ?_
  repeat (first | refine wp_seq_region ?_ | refine wp_region ?_)
  refine r_box (cs := [.bool (tst (a < 0)), ma]) (by conv => (lhs; whnf)) rfl ?_
  intro w1 ga k1 hga hgsa
  skip
  refine r_box (cs := [.bool (tst (b < 0)), mb]) (by conv => (lhs; whnf)) rfl ?_
  intro w2 gb k2 hgb hgsb
  skip
  refine r_alloc (cs := [.bool false, .slice none 0 0]) rfl ?_
  intro w3 g k3 hg hgs
  replace hga := hga.to (k2.trans k3)
  replace hgb := hgb.to k3
  have k := (k1.trans k2).trans k3
  have hs := (k1.trans k2).size
  replace hma := hma.to k
  replace hmb := hmb.to k
  replace hS := hS.to k
  clear k1 k2 k3
  repeat (first | refine r_load_all rfl hga rfl ?_ | refine r_load_all rfl hgb rfl ?_ | refine wp_seq_region ?_ | refine wp_region ?_ | refine r_assign (by conv => (lhs; whnf)) ?_ | refine r_nil ?_)
  refine r_call (iplus_c hS ⟨ma, rfl, hma⟩ ⟨mb, rfl, hmb⟩ (by unfold zl at hla; omega) (by unfold zl at hlb; omega)) rfl ?_
  rintro v4 w4 ⟨k4, h4⟩
  repeat (first | refine r_func ?_)
  refine r_call (iattempt_c (hS.to k4) h4) rfl ?_
  rintro v5 w5 ⟨k5, r, e, rfl, hor⟩
  repeat (first | refine r_extract rfl rfl ?_)
  have k' := (k.trans k4).trans k5
  replace hg := (hg.to k4).to k5
  rcases hor with ⟨hf, rfl, m, rfl, hm⟩ | ⟨hf, rfl, m, rfl, hm⟩
  · refine r_store2 rfl rfl hg rfl hm.one ?_
    intro w6 k6 hg6
    repeat (first | refine r_assign (by conv => (lhs; whnf)) ?_ | refine r_nil ?_ | refine q_then ?_ | refine wp_ret ?_)
    exact end2 rfl (resV_agg (by conv => (lhs; whnf)) hg6 rfl) (resV_tmp (by conv => (lhs; whnf))) ⟨Keeps.past k' k6 (by omega), _, _, rfl, .inl ⟨hf, rfl, m, rfl, hm.wrT k6 hg (by decide)⟩⟩
  · refine r_store2 rfl rfl hg rfl hm.one ?_
    intro w6 k6 hg6
    repeat (first | refine r_assign (by conv => (lhs; whnf)) ?_ | refine r_nil ?_ | refine q_then ?_ | refine wp_ret ?_)
    exact end2 rfl (resV_agg (by conv => (lhs; whnf)) hg6 rfl) (resV_tmp (by conv => (lhs; whnf))) ⟨Keeps.past k' k6 (by omega), _, _, rfl, .inr ⟨hf, rfl, m, rfl, hm.wrT k6 hg (by decide)⟩⟩
theorem imul_c {S : Nat → Prop} {w : World} {va vb : Value} {a b : Int} (hS : Up S w) (ha : IntV S 127 .u32 w va a) (hb : IntV S 127 .u32 w vb b) (hla : zl a ≤ 1099511627000) (hlb : zl b ≤ 1099511627000) :
    Gives Tryz.prog 26 [va, vb] w fun v' w' => Ext w w' ∧ ITried S w' v' (a * b) := by
  obtain ⟨ma, rfl, hma⟩ := ha
  obtain ⟨mb, rfl, hmb⟩ := hb
  refine gives_of Tryz.func26 rfl rfl rfl ?_
  repeat (first | refine wp_seq_region ?_ | refine wp_region ?_)
  refine r_box (cs := [.bool (tst (a < 0)), ma]) (by conv => (lhs; whnf)) rfl ?_
  intro w1 ga k1 hga hgsa
  skip
  refine r_box (cs := [.bool (tst (b < 0)), mb]) (by conv => (lhs; whnf)) rfl ?_
  intro w2 gb k2 hgb hgsb
  skip
  refine r_alloc (cs := [.bool false, .slice none 0 0]) rfl ?_
  intro w3 g k3 hg hgs
  replace hga := hga.to (k2.trans k3)
  replace hgb := hgb.to k3
  have k := (k1.trans k2).trans k3
  have hs := (k1.trans k2).size
  replace hma := hma.to k
  replace hmb := hmb.to k
  replace hS := hS.to k
  clear k1 k2 k3
  repeat (first | refine r_load_all rfl hga rfl ?_ | refine r_load_all rfl hgb rfl ?_ | refine wp_seq_region ?_ | refine wp_region ?_ | refine r_assign (by conv => (lhs; whnf)) ?_ | refine r_nil ?_)
  refine r_call (itimes_c hS ⟨ma, rfl, hma⟩ ⟨mb, rfl, hmb⟩ hla hlb) rfl ?_
  rintro v4 w4 ⟨k4, h4⟩
  repeat (first | refine r_func ?_)
  refine r_call (iattempt_c (hS.to k4) h4) rfl ?_
  rintro v5 w5 ⟨k5, r, e, rfl, hor⟩
  repeat (first | refine r_extract rfl rfl ?_)
  have k' := (k.trans k4).trans k5
  replace hg := (hg.to k4).to k5
  rcases hor with ⟨hf, rfl, m, rfl, hm⟩ | ⟨hf, rfl, m, rfl, hm⟩
  · refine r_store2 rfl rfl hg rfl hm.one ?_
    intro w6 k6 hg6
    repeat (first | refine r_assign (by conv => (lhs; whnf)) ?_ | refine r_nil ?_ | refine q_then ?_ | refine wp_ret ?_)
    exact end2 rfl (resV_agg (by conv => (lhs; whnf)) hg6 rfl) (resV_tmp (by conv => (lhs; whnf))) ⟨Keeps.past k' k6 (by omega), _, _, rfl, .inl ⟨hf, rfl, m, rfl, hm.wrT k6 hg (by decide)⟩⟩
  · refine r_store2 rfl rfl hg rfl hm.one ?_
    intro w6 k6 hg6
    repeat (first | refine r_assign (by conv => (lhs; whnf)) ?_ | refine r_nil ?_ | refine q_then ?_ | refine wp_ret ?_)
    exact end2 rfl (resV_agg (by conv => (lhs; whnf)) hg6 rfl) (resV_tmp (by conv => (lhs; whnf))) ⟨Keeps.past k' k6 (by omega), _, _, rfl, .inr ⟨hf, rfl, m, rfl, hm.wrT k6 hg (by decide)⟩⟩
end Go.Proofs.YtpmnjjmngogkkaaGreatDoor
end

section
set_option linter.unusedVariables false
set_option linter.unusedSimpArgs false
namespace Go.Proofs.YtpmnjjmngogkkaaGreatDoor
open Go Go.RowKit
abbrev Tri := Value × Value × Value
/-- The cells of a list of three-celled values. -/
def flat : List Tri → List Value
  | [] => []
  | (a, b, c) :: r => a :: b :: c :: flat r
def Tri.val (t : Tri) : Value := .agg #[t.1, t.2.1, t.2.2]
theorem flat_length (l : List Tri) : (flat l).length = 3 * l.length := by
  induction l with
  | nil => rfl
  | cons t r ih => obtain ⟨a, b, c⟩ := t; simp only [flat, List.length_cons, ih]; omega
theorem flat_append (a b : List Tri) : flat (a ++ b) = flat a ++ flat b := by
  induction a with
  | nil => rfl
  | cons t r ih => obtain ⟨x, y, z⟩ := t; simp only [List.cons_append, flat, ih]
theorem flat_at : ∀ {l : List Tri} {j : Nat} {t : Tri}, l[j]? = some t → ((flat l).drop (3 * j)).take 3 = [t.1, t.2.1, t.2.2] := by
  intro l
  induction l with
  | nil => intro j t h; simp at h
  | cons s r ih =>
    intro j t h
    obtain ⟨a, b, c⟩ := s
    cases j with
    | zero =>
      simp only [List.getElem?_cons_zero, Option.some.injEq] at h
      subst h
      rfl
    | succ j =>
      rw [show 3 * (j + 1) = (((3 * j) + 1) + 1) + 1 by omega]
      simp only [flat, List.drop_succ_cons]
      exact ih (by simpa using h)
theorem flat_set : ∀ {l : List Tri} {j : Nat} {t : Tri}, j < l.length → (flat l).take (3 * j) ++ [t.1, t.2.1, t.2.2] ++ (flat l).drop (3 * j + 3) = flat (l.set j t) := by
  intro l
  induction l with
  | nil => intro j t h; simp at h
  | cons s r ih =>
    intro j t h
    obtain ⟨a, b, c⟩ := s
    cases j with
    | zero => rfl
    | succ j =>
      have h1 := ih (j := j) (t := t) (by simpa using h)
      rw [show 3 * (j + 1) = (((3 * j) + 1) + 1) + 1 by omega]
      simp only [flat, List.take_succ_cons, List.cons_append, List.set_cons_succ]
      rw [show 3 * j + 1 + 1 + 1 + 3 = (((3 * j + 3) + 1) + 1) + 1 by omega]
      simp only [List.drop_succ_cons]
      rw [← h1]
section rules
variable {P : Program} {n : Nat} {Q : Post} {ρ : Fr} {w : World} {all rest : List Oper} {d : Tmp} {ty : TypeId} {pos : String} {aft : Array Edge}
theorem r_load_tri {t : TypeId} {b : Nat} {z : Value} [ti : TyI P t 3 b z true] {x : Operand} {g o : Nat} {T : TypeId} {l : List Tri} {u : Tri} (j : Nat)
    (hx : ev ρ x = .pointer (some ⟨g, o, none⟩)) (ho : o = 3 * j) (hb : Blk w g T (flat l)) (hu : l[j]? = some u) (h : WpR P n all Q rest (upd ρ d u.val) w) :
    WpR P n all Q (⟨some d, .load t x, ty, pos, aft, none⟩ :: rest) ρ w := by
  subst ho
  exact r_load_part hx hb (flat_at hu) rfl h
theorem r_store_tri {t : TypeId} {b : Nat} {z : Value} {agg : Bool} [ti : TyI P t 3 b z agg] {x y : Operand} {g o : Nat} {T : TypeId} {l : List Tri} {u : Tri} (j : Nat)
    (hx : ev ρ x = .pointer (some ⟨g, o, none⟩)) (ho : o = 3 * j) (hy : ev ρ y = u.val) (hb : Blk w g T (flat l)) (hj : j < l.length) (h1 : u.1.oneCell' = true) (h2 : u.2.1.oneCell' = true) (h3 : u.2.2.oneCell' = true)
    (h : ∀ w', Wrt g w w' → Blk w' g T (flat (l.set j u)) → WpR P n all Q rest ρ w') : WpR P n all Q (⟨none, .store t x y, ty, pos, aft, none⟩ :: rest) ρ w := by
  subst ho
  have hfl := flat_length l
  have h4 := run_storeCells_at P g (3 * j) T [u.1, u.2.1, u.2.2] 0 (flat l).toArray w hb (by simp; omega) (ones3 h1 h2 h3)
  have e : ((flat l).toArray.toList.take (3 * j + 0) ++ [u.1, u.2.1, u.2.2] ++ (flat l).toArray.toList.drop (3 * j + 0 + [u.1, u.2.1, u.2.2].length)).toArray = (flat (l.set j u)).toArray := by
    rw [← flat_set (t := u) hj]
    rfl
  rw [e] at h4
  refine r_skipw (w' := w.setRow g (flat (l.set j u)).toArray) rfl rfl ?_ (h _ ?_ (setRow_heap w g _ _ T (0, 0) hb))
  · simp [execOp, hx, hy, Instr.storeAt, Instr.sureAddr, storeVar, ti.runSize w, Tri.val, Value.cells, h4]
  · exact ⟨rfl, rfl, rfl, by simp [World.setRow], fun k _ hk => setRow_other w g k _ hk⟩
theorem r_invoke {T : TypeId} {f : FuncId} [ci : CallI P f] {x : Operand} {nm : String} {v : Value} {l : List Operand} {ts : Array TypeId} {args : List Value} {Ψ : Value → World → Prop}
    (hm : ∀ v w, (method (P.types.size + Made.depth) T v nm).run P w = .ok (f, v) w) (hx : ev ρ x = .iface T v) (hc : Gives P f args w Ψ) (ha : v :: l.map (ev ρ) = args)
    (h : ∀ v w', Ψ v w' → WpR P n all Q rest (upd ρ d v) w') : WpR P n all Q (⟨some d, .call ⟨.invoke x nm, l.toArray, ts⟩, ty, pos, aft, none⟩ :: rest) ρ w := by
  refine r_step rfl ?_
  have hr : (execOp (ev ρ) ⟨some d, .call ⟨.invoke x nm, l.toArray, ts⟩, ty, pos, aft, none⟩).run P w = .ok (.enter f args.toArray) w := by
    subst ha
    have e : (callMethod (.iface T v) nm (l.map (ev ρ)).toArray).run P w = .ok (.enter f (v :: l.map (ev ρ)).toArray) w := by
      simp [callMethod, hm, ci.run]
    have e2 : (#[Value.iface T v] ++ (l.map (ev ρ)).toArray).extract 1 (#[Value.iface T v] ++ (l.map (ev ρ)).toArray).size = (l.map (ev ρ)).toArray := by
      apply Array.ext'
      simp
      exact List.take_of_length_le (by simp)
    simp [execOp, resolve, invoke, hx] at e e2 ⊢
    rw [List.take_of_length_le (by simp), e]
  unfold Stp
  rw [hr]
  exact hc.mono h
end rules
/-- A frame of which only some slots are known. -/
def updL (u : Fr) : List (Nat × Value) → Fr
  | [] => u
  | (i, v) :: r => upd (updL u r) i v
def okL (ρ : Fr) : List (Nat × Value) → Prop
  | [] => True
  | (i, v) :: r => ρ i = v ∧ okL ρ r
theorem updL_self {ρ : Fr} : ∀ {l : List (Nat × Value)}, okL ρ l → updL ρ l = ρ
  | [], _ => rfl
  | (i, v) :: r, ⟨h, hr⟩ => by rw [updL, updL_self hr, upd_self h]
theorem wp_fresh {P : Program} {n : Nat} {c : Code} {Q : Post} {ρ : Fr} {w : World} (l : List (Nat × Value)) (h : okL ρ l) (k : ∀ u, Wp P n c Q (updL u l) w) : Wp P n c Q ρ w := by
  have := k ρ
  rwa [updL_self h] at this
/-- A loop that ends within k rounds. -/
def Unr (P : Program) (n : Nat) (c : Code) (Q : Post) : Nat → Fr → World → Prop
  | 0, _, _ => False
  | k + 1, ρ, w => Wp P n c (thenQ (fun ρ w => Unr P n c Q k ρ w) Q) ρ w
theorem unr_step {P : Program} {n : Nat} {c : Code} {Q : Post} {k : Nat} {ρ : Fr} {w : World} (h : Wp P n c (thenQ (fun ρ w => Unr P n c Q k ρ w) Q) ρ w) : Unr P n c Q (k + 1) ρ w := h
theorem unr_loop {P : Program} {n : Nat} {c : Code} {Q : Post} {k : Nat} {ρ : Fr} {w : World} (h : Unr P n c Q k ρ w) : Wp P n (.loop c) Q ρ w := by
  have key : ∀ k ρ w, Unr P n c Q k ρ w → codeOk n c = true → ∀ D act, Mt n D act ρ → ∀ b K cs, ∃ e a' w', lift n D Q e a' w' ∧ Arrives P (lone (b.at act (.code c :: .inLoop c :: K)) cs w) b K cs e a' w' := by
    intro k
    induction k with
    | zero => intro ρ w h; exact h.elim
    | succ k ih =>
      intro ρ w h hc D act hm b K cs
      have h' : Wp P n c (thenQ (fun ρ w => Unr P n c Q k ρ w) Q) ρ w := h
      unfold Wp at h'
      obtain ⟨e, a₁, w₁, ⟨ρ₁, hm₁, hq⟩, harr⟩ := h' hc D act hm b (.inLoop c :: K) cs
      cases e with
      | normal =>
        obtain ⟨e₂, a₂, w₂, hq₂, harr₂⟩ := ih ρ₁ w₁ hq hc D a₁ hm₁ b K cs
        exact ⟨e₂, a₂, w₂, hq₂, .of_steps (Steps.trans harr (.one step_inLoop)) harr₂⟩
      | exit id => exact ⟨_, a₁, w₁, ⟨ρ₁, hm₁, hq⟩, .pass (x := .inLoop c) rfl (fun _ _ => .inl (by simp)) harr⟩
      | goto l => exact ⟨_, a₁, w₁, ⟨ρ₁, hm₁, hq⟩, .pass (x := .inLoop c) rfl (fun _ _ => .inl (by simp)) harr⟩
      | ret => exact ⟨_, a₁, w₁, ⟨ρ₁, hm₁, hq⟩, .pass (x := .inLoop c) rfl (fun _ _ => .inl (by simp)) harr⟩
      | panic ch => exact ⟨_, a₁, w₁, ⟨ρ₁, hm₁, hq⟩, .pass (x := .inLoop c) rfl (fun _ _ => .inl (by simp)) harr⟩
      | outgrown => exact ⟨_, a₁, w₁, ⟨ρ₁, hm₁, hq⟩, .pass (x := .inLoop c) rfl (fun _ _ => .inl (by simp)) harr⟩
  unfold Wp
  intro hc D act hm b K cs
  obtain ⟨e, a', w', hq, harr⟩ := key k ρ w h hc D act hm b K cs
  exact ⟨e, a', w', hq, .of_steps (.one step_loop) harr⟩
theorem unr_for {P : Program} {n : Nat} {c : Code} {Q : Post} {ρ : Fr} {w : World} {i : Nat} (k : Nat) (h : Unr P n c (blockQ i Q) k ρ w) : Wp P n (.block i (.loop c)) Q ρ w := wp_block (unr_loop h)
attribute [irreducible] Unr
/-- The fractions that the three-celled values are. -/
def Rats (S : Nat → Prop) (w : World) : List Tri → List Rat → Prop
  | [], [] => True
  | t :: r, q :: l => RatV S w t.val q ∧ Rats S w r l
  | _, _ => False
theorem Rats.keep {S : Nat → Prop} {w w' : World} (k : Keeps S w w') : ∀ {ts : List Tri} {l : List Rat}, Rats S w ts l → Rats S w' ts l
  | [], [], _ => trivial
  | _ :: _, _ :: _, ⟨h1, h2⟩ => ⟨h1.keep k, Rats.keep k h2⟩
theorem Rats.to {S : Nat → Prop} {w w' : World} (k : Ext w w') {ts : List Tri} {l : List Rat} (h : Rats S w ts l) : Rats S w' ts l := h.keep (.of k)
theorem Rats.length {S : Nat → Prop} {w : World} : ∀ {ts : List Tri} {l : List Rat}, Rats S w ts l → ts.length = l.length
  | [], [], _ => rfl
  | _ :: _, _ :: _, ⟨_, h2⟩ => by simp [h2.length]
theorem Rats.get {S : Nat → Prop} {w : World} : ∀ {ts : List Tri} {l : List Rat} {j : Nat} {q : Rat}, Rats S w ts l → l[j]? = some q → ∃ t, ts[j]? = some t ∧ RatV S w t.val q
  | [], [], j, q, _, h => by simp at h
  | t :: _, _ :: _, 0, q, ⟨h1, _⟩, h => ⟨t, rfl, by simp at h; subst h; exact h1⟩
  | _ :: _, _ :: _, j + 1, q, ⟨_, h2⟩, h => by simpa using h2.get (by simpa using h)
theorem RatV.tri {S : Nat → Prop} {w : World} {v : Value} {q : Rat} (h : RatV S w v q) : ∃ t : Tri, v = t.val ∧ RatV S w t.val q ∧ t.1.oneCell' = true ∧ t.2.1.oneCell' = true ∧ t.2.2.oneCell' = true := by
  have h0 := h
  obtain ⟨m, b, rfl, hm, hb⟩ := h
  exact ⟨(_, m, b), rfl, h0, rfl, hm.one, hb.one⟩
theorem meth_sign : ∀ v w, (method (Tryz.prog.types.size + Made.depth) 34 v "Sign").run Tryz.prog w = .ok (19, v) w := fun v w => by kernel_rfl
theorem meth_times : ∀ v w, (method (Tryz.prog.types.size + Made.depth) 34 v "rabbet/frac.times").run Tryz.prog w = .ok (108, v) w := fun v w => by kernel_rfl
theorem meth_minus : ∀ v w, (method (Tryz.prog.types.size + Made.depth) 34 v "rabbet/frac.minus").run Tryz.prog w = .ok (107, v) w := fun v w => by kernel_rfl
end Go.Proofs.YtpmnjjmngogkkaaGreatDoor
end

section
set_option linter.unusedVariables false
set_option linter.unusedSimpArgs false
namespace Go.Proofs.YtpmnjjmngogkkaaGreatDoor
open Go Go.RowKit
/-- The canonical form. -/
def rstr (q : Rat) : List UInt8 := Lib.itoa q.num ++ (if q.den = 1 then [] else 47 :: Lib.decDigits q.den)
theorem nDigits_le_dl (a : Nat) {k : Nat} (h : dl a ≤ k) : Lib.nDigits a ≤ 9 * k + 1 := by
  by_cases h0 : a = 0
  · subst h0; rw [Lib.nDigits_small (by decide)]; omega
  · have := nDigits_dl (n := a) (by omega); omega
theorem itoa_length (z : Int) : (Lib.itoa z).length ≤ Lib.nDigits z.natAbs + 1 := by
  unfold Lib.itoa
  split
  · rw [List.length_cons, Lib.decDigits_length]; omega
  · rw [Lib.decDigits_length, show z.toNat = z.natAbs by omega]; omega
theorem rstr_c {S : Nat → Prop} {w : World} {v : Value} {q : Rat} (ht : Tab w) (h : RatV S w v q) (hl : rl q 400000000000) :
    Gives Tryz.prog 16 [v] w fun v' w' => v' = strV (rstr q) ∧ Ext w w' := by
  obtain ⟨m, b, rfl, hm, hb⟩ := h
  obtain ⟨hl1, hl2⟩ := hl
  have hbl : (dg (bot q)).length = 0 ↔ q.den = 1 := by
    have h1 := @dl_eq_zero (bot q)
    unfold dl at h1
    rw [h1]
    unfold bot
    have := q.den_pos
    split <;> omega
  have hn1 := itoa_length q.num
  have hn2 := nDigits_le_dl q.num.natAbs hl1
  have hn3 := nDigits_le_dl q.den hl2
  refine gives_of Tryz.func16 rfl rfl rfl ?_
  repeat (first | refine wp_seq_region ?_ | refine wp_region ?_)
  refine r_box (cs := [.bool (tst (q.num < 0)), m, b]) (by conv => (lhs; whnf)) rfl ?_
  intro w1 g k1 hg hgs
  replace hb := hb.to k1
  repeat (first | refine r_load_part rfl hg rfl rfl ?_ | refine wp_seq_region ?_ | refine wp_region ?_ | refine r_assign (by conv => (lhs; whnf)) ?_ | refine r_nil ?_ | refine r_field rfl ?_)
  refine r_call (istr_c (a := q.num) (ht.to k1) ⟨m, rfl, hm.to k1⟩ (by unfold zl; omega)) rfl ?_
  rintro v2 w2 ⟨rfl, k2⟩
  replace hg := hg.to k2
  replace hb := hb.to k2
  repeat (first | refine r_load_blk rfl hg rfl ?_ | refine wp_seq_region ?_ | refine wp_seq_seq ?_ | refine wp_region ?_ | refine r_assign (by conv => (lhs; whnf)) ?_ | refine r_nil ?_ | refine q_then ?_ | refine r_len (by conv => (lhs; whnf)) (by assumption) ?_ | refine r_gtr rfl rfl ?_ | refine r_field rfl ?_)
  try refine wp_seq_cond ?_
  refine wp_cond_dec rfl ?_ ?_ <;> intro hc
  · have hq : ¬ q.den = 1 := fun h => by have := hbl.2 h; omega
    have hbq : bot q = q.den := by unfold bot; rw [if_neg hq]
    rw [hbq] at hb
    repeat (first | refine r_load_blk rfl hg rfl ?_ | refine wp_region ?_ | refine r_move (by conv => (lhs; whnf)) ?_ | refine r_field rfl ?_)
    refine r_call (mstr_c ((ht.to k1).to k2) hb (by omega)) rfl ?_
    rintro v3 w3 ⟨rfl, k3⟩
    refine r_cat (a := [47]) rfl rfl (by rw [Lib.decDigits_length]; simp; omega) ?_
    refine r_cat rfl rfl (by rw [List.length_append, Lib.decDigits_length]; simp; omega) ?_
    repeat (first | refine wp_seq_region ?_ | refine wp_region ?_ | refine r_move (by conv => (lhs; whnf)) ?_ | refine r_assign (by conv => (lhs; whnf)) ?_ | refine r_nil ?_ | refine q_then ?_ | refine wp_ret ?_)
    refine end_tmp rfl (by conv => (lhs; whnf)) ⟨?_, (k1.trans k2).trans k3⟩
    unfold rstr
    rw [if_neg hq]
    rfl
  · have hq : q.den = 1 := hbl.1 (by omega)
    repeat (first | refine wp_seq_region ?_ | refine wp_region ?_ | refine r_move (by conv => (lhs; whnf)) ?_ | refine r_assign (by conv => (lhs; whnf)) ?_ | refine r_nil ?_ | refine q_then ?_ | refine wp_ret ?_ | refine wp_skip ?_)
    refine end_tmp rfl (by conv => (lhs; whnf)) ⟨?_, k1.trans k2⟩
    unfold rstr
    rw [if_pos hq, List.append_nil]
/-- Few digits in both parts. -/
def Short (q : Rat) : Prop := Lib.nDigits q.num.natAbs ≤ 60 ∧ Lib.nDigits q.den ≤ 60
theorem short_c {S : Nat → Prop} {w : World} {v : Value} {q : Rat} (hS : Up S w) (ht : Tab w) (h : RatV S w v q) (hl : rl q 400000000000) :
    Gives Tryz.prog 164 [v] w fun v' w' => v' = .bool (tst (Short q)) ∧ Ext w w' := by
  have h0 := h
  obtain ⟨m, b, rfl, hm, hb⟩ := h
  obtain ⟨hl1, hl2⟩ := hl
  refine gives_of Tryz.func164 rfl rfl rfl ?_
  repeat (first | refine wp_seq_region ?_ | refine wp_region ?_)
  refine r_box (cs := [.bool (tst (q.num < 0)), m, b]) (by conv => (lhs; whnf)) rfl ?_
  intro w1 g k1 hg hgs
  repeat (first | refine r_load_blk rfl hg rfl ?_ | refine wp_seq_region ?_ | refine wp_region ?_ | refine r_assign (by conv => (lhs; whnf)) ?_ | refine r_nil ?_ | refine r_field rfl ?_)
  refine r_call (mstr_c (ht.to k1) (hm.to k1) (by omega)) rfl ?_
  rintro v2 w2 ⟨rfl, k2⟩
  have hlen1 := Lib.decDigits_length q.num.natAbs
  have hlen2 := Lib.decDigits_length q.den
  repeat (first | refine r_lenS rfl ?_ | refine r_move (by conv => (lhs; whnf)) ?_ | refine r_leq rfl rfl ?_)
  refine r_guard_split rfl rfl ?_ ?_ <;> intro hc
  · repeat (first | refine r_load_all rfl (hg.to k2) rfl ?_ | refine r_guard_run rfl rfl ?_)
    refine r_call (den_c (hS.to (k1.trans k2)) (h0.to (k1.trans k2))) rfl ?_
    rintro v3 w3 ⟨k3, h3⟩
    repeat (first | refine r_guard_run rfl rfl ?_)
    refine r_call (mstr_c (((ht.to k1).to k2).to k3) h3 (by omega)) rfl ?_
    rintro v4 w4 ⟨rfl, k4⟩
    repeat (first | refine r_lenS rfl ?_ | refine r_assign (by conv => (lhs; whnf)) ?_ | refine r_nil ?_ | refine q_then ?_ | refine wp_ret ?_ | refine r_guard_run rfl rfl ?_ | refine r_pick_true rfl (by conv => (lhs; whnf)) ?_ | refine r_leq rfl rfl ?_)
    refine end_tmp rfl (by conv => (lhs; whnf)) ⟨congrArg Value.bool (tst_congr ?_), ((k1.trans k2).trans k3).trans k4⟩
    unfold Short
    omega
  · repeat (first | refine r_assign (by conv => (lhs; whnf)) ?_ | refine r_nil ?_ | refine q_then ?_ | refine wp_ret ?_ | refine r_guard_skip rfl rfl rfl ?_ | refine r_pick_false rfl (by conv => (lhs; whnf)) ?_)
    refine end_tmp rfl (by conv => (lhs; whnf)) ⟨?_, k1.trans k2⟩
    show Value.bool false = _
    rw [tst_false fun h => hc (by have := h.1; omega)]
theorem long_c {S : Nat → Prop} {w : World} {v : Value} {q : Rat} (hS : Up S w) (ht : Tab w) (h : RatV S w v q) (hl : rl q 400000000000) :
    Gives Tryz.prog 163 [v] w fun v' w' => v' = .bool (tst (¬ Short q)) ∧ Ext w w' := by
  have h0 := h
  obtain ⟨m, b, rfl, hm, hb⟩ := h
  refine gives_of Tryz.func163 rfl rfl rfl ?_
  repeat (first | refine wp_seq_region ?_ | refine wp_region ?_)
  refine r_box (cs := [.bool (tst (q.num < 0)), m, b]) (by conv => (lhs; whnf)) rfl ?_
  intro w1 g k1 hg hgs
  repeat (first | refine r_load_all rfl hg rfl ?_ | refine wp_seq_region ?_ | refine wp_region ?_ | refine r_assign (by conv => (lhs; whnf)) ?_ | refine r_nil ?_)
  refine r_call (short_c (hS.to k1) (ht.to k1) (h0.to k1) hl) rfl ?_
  rintro v2 w2 ⟨rfl, k2⟩
  repeat (first | refine r_assign (by conv => (lhs; whnf)) ?_ | refine r_nil ?_ | refine q_then ?_ | refine wp_ret ?_ | refine r_notB rfl ?_)
  exact end_tmp rfl (by conv => (lhs; whnf)) ⟨rfl, k1.trans k2⟩
theorem long2_c {S : Nat → Prop} {w : World} {v : Value} {q : Rat} (hS : Up S w) (ht : Tab w) (h : RatV S w v q) (hl : rl q 400000000000) :
    Gives Tryz.prog 166 [v] w fun v' w' => v' = .bool (tst (¬ Short q)) ∧ Ext w w' := by
  have h0 := h
  obtain ⟨m, b, rfl, hm, hb⟩ := h
  refine gives_of Tryz.func166 rfl rfl rfl ?_
  repeat (first | refine wp_seq_region ?_ | refine wp_region ?_)
  refine r_box (cs := [.bool (tst (q.num < 0)), m, b]) (by conv => (lhs; whnf)) rfl ?_
  intro w1 g k1 hg hgs
  repeat (first | refine r_load_all rfl hg rfl ?_ | refine wp_seq_region ?_ | refine wp_region ?_ | refine r_assign (by conv => (lhs; whnf)) ?_ | refine r_nil ?_)
  refine r_call (short_c (hS.to k1) (ht.to k1) (h0.to k1) hl) rfl ?_
  rintro v2 w2 ⟨rfl, k2⟩
  repeat (first | refine r_assign (by conv => (lhs; whnf)) ?_ | refine r_nil ?_ | refine q_then ?_ | refine wp_ret ?_ | refine r_notB rfl ?_)
  exact end_tmp rfl (by conv => (lhs; whnf)) ⟨rfl, k1.trans k2⟩
theorem neg_test_c {S : Nat → Prop} {w : World} {v : Value} {q : Rat} (h : RatV S w v q) :
    Gives Tryz.prog 170 [v] w fun v' w' => v' = .bool (tst (q.num.sign < 0)) ∧ Ext w w' := by
  have h0 := h
  obtain ⟨m, b, rfl, hm, hb⟩ := h
  refine gives_of Tryz.func170 rfl rfl rfl ?_
  repeat (first | refine wp_seq_region ?_ | refine wp_region ?_)
  refine r_box (cs := [.bool (tst (q.num < 0)), m, b]) (by conv => (lhs; whnf)) rfl ?_
  intro w1 g k1 hg hgs
  repeat (first | refine r_load_all rfl hg rfl ?_ | refine wp_seq_region ?_ | refine wp_region ?_ | refine r_assign (by conv => (lhs; whnf)) ?_ | refine r_nil ?_)
  refine r_call (rsign_c (h0.to k1)) rfl ?_
  rintro v2 w2 ⟨rfl, k2⟩
  repeat (first | refine r_assign (by conv => (lhs; whnf)) ?_ | refine r_nil ?_ | refine q_then ?_ | refine wp_ret ?_ | refine r_lss rfl rfl ?_)
  exact end_tmp rfl (by conv => (lhs; whnf)) ⟨rfl, k1.trans k2⟩
/-- The first fraction that meets a test, or -1. -/
def Found (l : List Rat) (p : Rat → Prop) (i : Int) : Prop := (i = -1 ∧ ∀ q ∈ l, ¬ p q) ∨ ∃ (k : Nat) (q : Rat), i = k ∧ l[k]? = some q ∧ p q ∧ ∀ j q', j < k → l[j]? = some q' → ¬ p q'
theorem index_c {S : Nat → Prop} {w : World} {g m cap : Nat} {T : TypeId} {ts : List Tri} {l : List Rat} {f : FuncId} [ci : CallI Tryz.prog f] {first caps : List Value} (p : Rat → Prop)
    (hb : Blk w g T (flat ts)) (hr : Rats S w (ts.take m) l) (hm : m ≤ ts.length) (hmm : m ≤ 1000000000)
    (hf : ∀ w' v q, Ext w w' → RatV S w' v q → q ∈ l → Gives Tryz.prog f (first ++ [v] ++ caps) w' fun v' w'' => v' = .bool (tst (p q)) ∧ Ext w' w'') :
    Gives Tryz.prog 169 [.slice (some ⟨g, 0, none⟩) m cap, .func (.func f) first.toArray caps.toArray] w fun v' w' => (∃ i, v' = .int .i64 i ∧ Found l p i) ∧ Ext w w' := by
  have hlen : l.length = m := by rw [← hr.length, List.length_take]; omega
  refine gives_of Tryz.func169 rfl rfl rfl ?_
  repeat (first | refine wp_seq_region ?_ | refine wp_seq_seq ?_ | refine wp_region ?_ | refine r_move (by conv => (lhs; whnf)) ?_ | refine r_assign (by conv => (lhs; whnf)) ?_ | refine r_nil ?_ | refine q_then ?_ | refine r_len_sl rfl ?_)
  try refine wp_seq_block ?_
  refine wp_for [(4, 5), (8, 18)] (fun k ρ w' => ∃ i : Nat, ρ 8 = .int .i64 (i : Int) ∧ i + k = m ∧ (∀ j q, j < i → l[j]? = some q → ¬ p q) ∧ Ext w w') m ?_ ?_
  · exact ⟨0, rfl, by omega, fun j q h => by omega, .refl⟩
  rintro k u w1 ⟨i, h8, hik, hno, k1⟩
  refine wp_learn 8 h8 ?_
  repeat (first | refine wp_seq_region ?_ | refine wp_region ?_ | refine r_nil ?_ | refine q_then ?_ | refine r_lss rfl rfl ?_)
  try refine wp_seq_cond ?_
  refine wp_cond_dec rfl ?_ ?_ <;> intro hc
  · obtain ⟨q, hq⟩ : ∃ q, l[i]? = some q := ⟨l[i]'(by omega), List.getElem?_eq_getElem (by omega)⟩
    obtain ⟨t, ht, htq⟩ := hr.get hq
    have ht' : ts[i]? = some t := by rw [List.getElem?_take] at ht; split at ht; exact ht; cases ht
    repeat (first | refine wp_seq_region ?_ | refine wp_seq_bseq ?_ | refine wp_region ?_ | refine r_move (by conv => (lhs; whnf)) ?_ | refine r_assign (by conv => (lhs; whnf)) ?_ | refine r_nil ?_ | refine wp_block_seq ?_ | refine wp_skip ?_ | refine r_index_sl rfl rfl (by omega) (by omega) ?_)
    refine r_load_tri i rfl (by omega) (hb.to k1) ht' ?_
    refine r_callv rfl (hf _ _ q k1 (htq.to k1) (List.mem_of_getElem? hq)) rfl ?_
    rintro v2 w2 ⟨rfl, k2⟩
    repeat (first | refine r_nil ?_ | refine q_then ?_)
    try refine wp_seq_cond ?_
    refine wp_cond_dec rfl ?_ ?_ <;> intro hp
    · repeat (first | refine wp_seq_region ?_ | refine wp_region ?_ | refine r_move (by conv => (lhs; whnf)) ?_ | refine r_assign (by conv => (lhs; whnf)) ?_ | refine r_nil ?_ | refine q_then ?_ | refine wp_ret ?_ | refine q_then_ret ?_ | refine q_block_ret ?_)
      exact end_tmp rfl (by conv => (lhs; whnf)) ⟨⟨_, rfl, .inr ⟨i, q, rfl, hq, hp, hno⟩⟩, k1.trans k2⟩
    · repeat (first | refine wp_region ?_ | refine r_move (by conv => (lhs; whnf)) ?_ | refine r_nil ?_ | refine q_then ?_ | refine wp_skip ?_ | refine r_addI rfl rfl (by omega) (by omega) ?_)
      refine ⟨by (repeat (first | refine agree_upd rfl ?_ | exact agree_over | refine agree_sub rfl ?_ | exact agree_refl)), k - 1, by omega, i + 1, congrArg (Value.int .i64) (by omega), by omega, fun j q' hj hq' => ?_, k1.trans k2⟩
      by_cases e : j = i
      · subst e
        rw [hq] at hq'
        cases hq'
        exact hp
      · exact hno j q' (by omega) hq'
  · repeat (first | refine wp_seq_region ?_ | refine wp_region ?_ | refine r_assign (by conv => (lhs; whnf)) ?_ | refine r_nil ?_ | refine q_then ?_ | refine wp_ret ?_ | refine wp_exit ?_)
    refine end_tmp rfl (by conv => (lhs; whnf)) ⟨⟨_, rfl, .inl ⟨rfl, fun q hq => ?_⟩⟩, k1⟩
    obtain ⟨j, hj, hjq⟩ := List.mem_iff_getElem.1 hq
    exact hno j q (by omega) (by rw [← hjq]; exact List.getElem?_eq_getElem hj)
theorem found_pos {l : List Rat} {p : Rat → Prop} {i : Int} (h : Found l p i) : 0 ≤ i ↔ ∃ q ∈ l, p q := by
  rcases h with ⟨rfl, h⟩ | ⟨k, q, rfl, hq, hp, _⟩
  · constructor
    · intro h1; omega
    · rintro ⟨q, hq, hp⟩; exact absurd hp (h q hq)
  · exact ⟨fun _ => ⟨q, List.mem_of_getElem? hq, hp⟩, fun _ => by omega⟩
theorem contains_c {S : Nat → Prop} {w : World} {g m cap : Nat} {T : TypeId} {ts : List Tri} {l : List Rat} {f : FuncId} [ci : CallI Tryz.prog f] {first caps : List Value} (p : Rat → Prop)
    (hb : Blk w g T (flat ts)) (hr : Rats S w (ts.take m) l) (hm : m ≤ ts.length) (hmm : m ≤ 1000000000)
    (hf : ∀ w' v q, Ext w w' → RatV S w' v q → q ∈ l → Gives Tryz.prog f (first ++ [v] ++ caps) w' fun v' w'' => v' = .bool (tst (p q)) ∧ Ext w' w'') :
    Gives Tryz.prog 129 [.slice (some ⟨g, 0, none⟩) m cap, .func (.func f) first.toArray caps.toArray] w fun v' w' => v' = .bool (tst (∃ q ∈ l, p q)) ∧ Ext w w' := by
  refine gives_of Tryz.func129 rfl rfl rfl ?_
  repeat (first | refine wp_seq_region ?_ | refine wp_region ?_ | refine r_move (by conv => (lhs; whnf)) ?_ | refine r_assign (by conv => (lhs; whnf)) ?_ | refine r_nil ?_)
  refine r_call (index_c p hb hr hm hmm hf) rfl ?_
  rintro v2 w2 ⟨⟨i, rfl, hi⟩, k2⟩
  repeat (first | refine r_assign (by conv => (lhs; whnf)) ?_ | refine r_nil ?_ | refine q_then ?_ | refine wp_ret ?_ | refine r_geq rfl rfl ?_)
  exact end_tmp rfl (by conv => (lhs; whnf)) ⟨congrArg Value.bool (tst_congr (found_pos hi)), k2⟩
end Go.Proofs.YtpmnjjmngogkkaaGreatDoor
end

section
set_option linter.unusedVariables false
set_option linter.unusedSimpArgs false
namespace Go.Proofs.YtpmnjjmngogkkaaGreatDoor
open Go
/-- The number that decimal digits make. -/
def digV (l : List UInt8) : Nat := l.foldl (fun a c => 10 * a + (c.toNat - 48)) 0
def Dig (c : UInt8) : Prop := 48 ≤ c.toNat ∧ c.toNat ≤ 57
/-- The decimal digits of a number, without zeros in front. -/
def DecL (l : List UInt8) : Prop := l ≠ [] ∧ (∀ c ∈ l, Dig c) ∧ (l.head? = some 48 → l.length = 1)
theorem digV_nil : digV [] = 0 := rfl
theorem digV_snoc (l : List UInt8) (c : UInt8) : digV (l ++ [c]) = 10 * digV l + (c.toNat - 48) := by
  unfold digV
  rw [List.foldl_append]
  rfl
theorem digV_append (a b : List UInt8) : digV (a ++ b) = digV a * 10 ^ b.length + digV b := by
  induction h : b.length generalizing b with
  | zero =>
    obtain rfl := List.eq_nil_of_length_eq_zero h
    simp [digV_nil]
  | succ k ih =>
    have hne : b ≠ [] := by rintro rfl; simp at h
    have e := List.dropLast_concat_getLast hne
    rw [← e, ← List.append_assoc, digV_snoc, digV_snoc, ih b.dropLast (by rw [List.length_dropLast]; omega), Nat.pow_succ]
    rw [Nat.mul_add, Nat.add_assoc, Nat.mul_left_comm, Nat.mul_comm 10]
theorem digV_lt {l : List UInt8} (h : ∀ c ∈ l, Dig c) : digV l < 10 ^ l.length := by
  induction hl : l.length generalizing l with
  | zero =>
    obtain rfl := List.eq_nil_of_length_eq_zero hl
    simp [digV_nil]
  | succ k ih =>
    have hne : l ≠ [] := by rintro rfl; simp at hl
    have e := List.dropLast_concat_getLast hne
    have h1 := ih (l := l.dropLast) (fun c hc => h c (List.dropLast_subset _ hc)) (by rw [List.length_dropLast]; omega)
    have h2 := h _ (List.getLast_mem hne)
    rw [← e, digV_snoc, Nat.pow_succ]
    unfold Dig at h2
    omega
theorem digV_dec (n : Nat) : digV (Lib.decDigits n) = n := by
  induction n using Nat.strongRecOn with
  | _ n ih =>
    rw [Lib.decDigits]
    by_cases h : n < 10
    · rw [dif_pos h]
      show 10 * 0 + ((UInt8.ofNat (48 + n)).toNat - 48) = n
      rw [UInt8.toNat_ofNat']
      omega
    · rw [dif_neg h, digV_snoc, ih _ (by omega), UInt8.toNat_ofNat']
      omega
theorem dec_ne (n : Nat) : Lib.decDigits n ≠ [] := by
  intro h
  have h1 := Lib.decDigits_length n
  rw [h] at h1
  have := Lib.nDigits_pos n
  simp at h1
  omega
theorem decL_dec (n : Nat) : DecL (Lib.decDigits n) := by
  refine ⟨dec_ne n, ?_, ?_⟩
  · induction n using Nat.strongRecOn with
    | _ n ih =>
      rw [Lib.decDigits]
      intro c hc
      by_cases h : n < 10
      · rw [dif_pos h] at hc
        rw [List.mem_singleton.1 hc]
        unfold Dig
        rw [UInt8.toNat_ofNat']
        omega
      · rw [dif_neg h] at hc
        rcases List.mem_append.1 hc with h1 | h1
        · exact ih _ (by omega) c h1
        · rw [List.mem_singleton.1 h1]
          unfold Dig
          rw [UInt8.toNat_ofNat']
          omega
  · intro h
    by_cases hn : n < 10
    · rw [Lib.decDigits_one hn]; rfl
    · exfalso
      -- the highest digit is not 0
      have hp : 0 < n := by omega
      have h1 := high_digit hp
      have h2 := low_get (k := Lib.nDigits n) (v := n) (i := Lib.nDigits n - 1) (by have := Lib.nDigits_pos n; omega)
      rw [← dec_low] at h2
      have h3 : (Lib.decDigits n).reverse[Lib.nDigits n - 1]? = (Lib.decDigits n).head? := by
        have hl := Lib.decDigits_length n
        have hpos := Lib.nDigits_pos n
        rw [List.getElem?_reverse (by omega), hl, show Lib.nDigits n - 1 - (Lib.nDigits n - 1) = 0 by omega, List.head?_eq_getElem?]
      rw [h3, h] at h2
      have h4 := congrArg UInt8.toNat (Option.some.inj h2)
      rw [UInt8.toNat_ofNat'] at h4
      have h5 : (48 : UInt8).toNat = 48 := rfl
      rw [h5] at h4
      omega
theorem dec_digV {l : List UInt8} (h : DecL l) : Lib.decDigits (digV l) = l := by
  induction hl : l.length generalizing l with
  | zero => exact absurd (List.eq_nil_of_length_eq_zero hl) h.1
  | succ k ih =>
    have e := List.dropLast_concat_getLast h.1
    have h2 := h.2.1 _ (List.getLast_mem h.1)
    obtain ⟨c, hc⟩ : ∃ c, c = l.getLast h.1 := ⟨_, rfl⟩
    obtain ⟨t, ht⟩ : ∃ t, t = l.dropLast := ⟨_, rfl⟩
    rw [← hc] at h2 e
    rw [← ht] at e
    have htl : t.length = k := by rw [ht, List.length_dropLast]; omega
    rw [← e, digV_snoc]
    unfold Dig at h2
    rcases Nat.eq_zero_or_pos k with h0 | h0
    · obtain rfl := List.eq_nil_of_length_eq_zero (htl.trans h0)
      rw [digV_nil, Nat.mul_zero, Nat.zero_add, Lib.decDigits_one (by omega)]
      show [UInt8.ofNat (48 + (c.toNat - 48))] = [c]
      rw [show 48 + (c.toNat - 48) = c.toNat by omega, UInt8.ofNat_toNat]
    · have hne : t ≠ [] := by rintro rfl; simp at htl; omega
      have hhd : l.head? = t.head? := by rw [← e]; cases t with | nil => exact absurd rfl hne | cons x r => rfl
      have h48 : t.head? ≠ some 48 := by
        intro h3
        have := h.2.2 (hhd.trans h3)
        omega
      have hT : DecL t := ⟨hne, fun x hx => h.2.1 x (by rw [← e]; exact List.mem_append_left _ hx), fun h3 => absurd h3 h48⟩
      have hi := ih hT htl
      have hpos : 0 < digV t := by
        rcases Nat.eq_zero_or_pos (digV t) with h3 | h3
        · rw [h3, Lib.decDigits_one (by decide)] at hi
          rw [← hi] at h48
          exact absurd rfl h48
        · exact h3
      rw [Lib.decDigits, dif_neg (by omega), show (10 * digV t + (c.toNat - 48)) / 10 = digV t by omega, hi, show (10 * digV t + (c.toNat - 48)) % 10 = c.toNat - 48 by omega, show 48 + (c.toNat - 48) = c.toNat by omega, UInt8.ofNat_toNat]
theorem decL_iff {l : List UInt8} : DecL l ↔ ∃ n, l = Lib.decDigits n := ⟨fun h => ⟨_, (dec_digV h).symm⟩, fun ⟨n, h⟩ => h ▸ decL_dec n⟩
theorem itoa_inj {a b : Int} (h : Lib.itoa a = Lib.itoa b) : a = b := by
  have hd : ∀ n c, (Lib.decDigits n).head? = some c → 48 ≤ c.toNat := fun n c hc => ((decL_dec n).2.1 c (List.mem_of_head? hc)).1
  have neg : ∀ n m : Nat, Lib.decDigits n = 45 :: Lib.decDigits m → False := fun n m e => by
    have := hd n 45 (by rw [e]; rfl)
    exact absurd this (by decide)
  unfold Lib.itoa at h
  split at h <;> split at h
  · have := congrArg digV (List.cons.inj h).2
    rw [digV_dec, digV_dec] at this
    omega
  · exact (neg _ _ h.symm).elim
  · exact (neg _ _ h).elim
  · have := congrArg digV h
    rw [digV_dec, digV_dec] at this
    omega
/-- Numerals of integers: digits, or a minus and digits that are not 0. -/
theorem itoa_neg_iff {l : List UInt8} : (∃ z : Int, z < 0 ∧ 45 :: l = Lib.itoa z) ↔ DecL l ∧ l.head? ≠ some 48 := by
  constructor
  · rintro ⟨z, hz, h⟩
    unfold Lib.itoa at h
    rw [if_pos hz] at h
    have hl := (List.cons.inj h).2
    refine ⟨decL_iff.2 ⟨_, hl⟩, fun h48 => ?_⟩
    have h1 := (decL_dec z.natAbs).2.2 (by rw [← hl]; exact h48)
    rw [hl] at h48
    rw [Lib.decDigits_length] at h1
    have h2 : z.natAbs < 10 := by
      have := Lib.lt_pow_nDigits z.natAbs
      rw [h1] at this
      omega
    rw [Lib.decDigits_one h2] at h48
    have h3 := congrArg UInt8.toNat (Option.some.inj h48)
    rw [UInt8.toNat_ofNat'] at h3
    have h5 : (48 : UInt8).toNat = 48 := rfl
    rw [h5] at h3
    omega
  · rintro ⟨h, h48⟩
    have hp : 0 < digV l := by
      rcases Nat.eq_zero_or_pos (digV l) with h3 | h3
      · have hi := dec_digV h
        rw [h3, Lib.decDigits_one (by decide)] at hi
        rw [← hi] at h48
        exact absurd rfl h48
      · exact h3
    refine ⟨-(digV l : Int), by omega, ?_⟩
    unfold Lib.itoa
    rw [if_pos (by omega), show (-(digV l : Int)).natAbs = digV l by omega, dec_digV h]
theorem itoa_pos {l : List UInt8} (h : DecL l) : l = Lib.itoa (digV l : Int) := by
  unfold Lib.itoa
  rw [if_neg (by omega), show ((digV l : Int)).toNat = digV l from rfl, dec_digV h]
theorem itoa_cases (z : Int) : (∃ l, Lib.itoa z = 45 :: l ∧ z < 0) ∨ DecL (Lib.itoa z) := by
  unfold Lib.itoa
  split
  · rename_i h; exact .inl ⟨_, rfl, h⟩
  · exact .inr (decL_dec _)
theorem dec_pos {l : List UInt8} (h : DecL l) (h48 : l.head? ≠ some 48) : 0 < digV l := by
  rcases Nat.eq_zero_or_pos (digV l) with h3 | h3
  · have hi := dec_digV h
    rw [h3, Lib.decDigits_one (by decide)] at hi
    rw [← hi] at h48
    exact absurd rfl h48
  · exact h3
theorem itoa_negV {l : List UInt8} (h : DecL l) (h48 : l.head? ≠ some 48) : 45 :: l = Lib.itoa (-(digV l : Int)) := by
  have hp := dec_pos h h48
  unfold Lib.itoa
  rw [if_pos (by omega), show (-(digV l : Int)).natAbs = digV l by omega, dec_digV h]
/-- The digits behind a sign, and whether there is one. -/
def NegS (s : List UInt8) : Prop := s.head? = some 45
instance (s : List UInt8) : Decidable (NegS s) := by unfold NegS; exact inferInstance
def Dgs (s : List UInt8) : List UInt8 := if NegS s then s.drop 1 else s
theorem dgs_neg {s : List UInt8} (h : NegS s) : s = 45 :: Dgs s := by
  unfold Dgs
  rw [if_pos h]
  unfold NegS at h
  cases s with
  | nil => cases h
  | cons c r => simp at h; subst h; rfl
theorem dgs_pos {s : List UInt8} (h : ¬ NegS s) : Dgs s = s := by unfold Dgs; rw [if_neg h]
theorem dgs_le (s : List UInt8) : (Dgs s).length ≤ s.length := by
  unfold Dgs
  split
  · rw [List.length_drop]; omega
  · exact Nat.le_refl _
/-- Which integer a numeral is of. -/
def numV (s : List UInt8) : Int := if NegS s then -(digV (Dgs s) : Int) else digV (Dgs s)
theorem num_val {s : List UInt8} (h : DecL (Dgs s)) (h48 : NegS s → (Dgs s).head? ≠ some 48) : s = Lib.itoa (numV s) := by
  unfold numV
  by_cases hn : NegS s
  · rw [if_pos hn, ← itoa_negV h (h48 hn)]
    exact dgs_neg hn
  · rw [if_neg hn, ← itoa_pos h]
    exact (dgs_pos hn).symm
theorem num_iff (s : List UInt8) : (∃ z, s = Lib.itoa z) ↔ DecL (Dgs s) ∧ (NegS s → (Dgs s).head? ≠ some 48) := by
  constructor
  · rintro ⟨z, hz⟩
    rcases itoa_cases z with ⟨l, hl, hneg⟩ | hd
    · have hn : NegS s := by unfold NegS; rw [hz, hl]; rfl
      have he := dgs_neg hn
      have h1 := itoa_neg_iff.1 ⟨z, hneg, hl.symm⟩
      rw [hz, hl] at he
      have e : Dgs s = l := by rw [hz, hl]; exact (List.cons.inj he).2.symm
      rw [e]
      exact ⟨h1.1, fun _ => h1.2⟩
    · rw [← hz] at hd
      have hn : ¬ NegS s := by
        intro hn
        unfold NegS at hn
        have := (hd.2.1 45 (List.mem_of_head? hn)).1
        exact absurd this (by decide)
      rw [dgs_pos hn]
      exact ⟨hd, fun h => absurd h hn⟩
  · rintro ⟨h, h48⟩
    exact ⟨_, num_val h h48⟩
end Go.Proofs.YtpmnjjmngogkkaaGreatDoor
end

section
set_option linter.unusedVariables false
set_option linter.unusedSimpArgs false
namespace Go.Proofs.YtpmnjjmngogkkaaGreatDoor
open Go Go.RowKit
theorem dec_no47 (n : Nat) : (47 : UInt8) ∉ Lib.decDigits n := fun h => by
  have := (decL_dec n).2.1 _ h
  unfold Dig at this
  have h47 : (47 : UInt8).toNat = 47 := rfl
  omega
theorem itoa_no47 (z : Int) : (47 : UInt8) ∉ Lib.itoa z := by
  unfold Lib.itoa
  split
  · intro h
    rcases List.mem_cons.1 h with h | h
    · cases h
    · exact dec_no47 _ h
  · exact dec_no47 _
theorem cut_inj : ∀ {a b c d : List UInt8}, (47 : UInt8) ∉ a → (47 : UInt8) ∉ c → a ++ 47 :: b = c ++ 47 :: d → a = c ∧ b = d := by
  intro a
  induction a with
  | nil =>
    intro b c d _ hc h
    cases c with
    | nil => simpa using h
    | cons y c =>
      simp only [List.nil_append, List.cons_append, List.cons.injEq] at h
      exact absurd (h.1 ▸ List.mem_cons_self ..) hc
  | cons x a ih =>
    intro b c d ha hc h
    cases c with
    | nil =>
      simp only [List.nil_append, List.cons_append, List.cons.injEq] at h
      exact absurd (h.1 ▸ List.mem_cons_self ..) ha
    | cons y c =>
      simp only [List.cons_append, List.cons.injEq] at h
      obtain ⟨h1, h2⟩ := ih (fun h => ha (List.mem_cons_of_mem _ h)) (fun h => hc (List.mem_cons_of_mem _ h)) h.2
      exact ⟨by rw [h.1, h1], h2⟩
theorem rstr_int {q : Rat} (h : q.den = 1) : rstr q = Lib.itoa q.num := by unfold rstr; rw [if_pos h, List.append_nil]
theorem rstr_frac {q : Rat} (h : q.den ≠ 1) : rstr q = Lib.itoa q.num ++ 47 :: Lib.decDigits q.den := by unfold rstr; rw [if_neg h]
/-- Without a stroke: an integer. -/
theorem rstr_none {s : List UInt8} (hs : (47 : UInt8) ∉ s) (q : Rat) : s = rstr q ↔ q.den = 1 ∧ s = Lib.itoa q.num := by
  by_cases h : q.den = 1
  · rw [rstr_int h]; exact ⟨fun h2 => ⟨h, h2⟩, fun h2 => h2.2⟩
  · constructor
    · intro h2
      rw [rstr_frac h] at h2
      exact absurd (h2 ▸ List.mem_append_right _ (List.mem_cons_self ..)) hs
    · exact fun h2 => absurd h2.1 h
/-- With one: two integers. -/
theorem rstr_cut {a b : List UInt8} (ha : (47 : UInt8) ∉ a) (q : Rat) : a ++ 47 :: b = rstr q ↔ q.den ≠ 1 ∧ a = Lib.itoa q.num ∧ b = Lib.decDigits q.den := by
  by_cases h : q.den = 1
  · constructor
    · intro h2
      rw [rstr_int h] at h2
      exact absurd (h2 ▸ List.mem_append_right _ (List.mem_cons_self ..)) (itoa_no47 _)
    · exact fun h2 => absurd h h2.1
  · rw [rstr_frac h]
    constructor
    · exact fun h2 => ⟨h, cut_inj ha (itoa_no47 _) h2⟩
    · rintro ⟨_, rfl, rfl⟩; rfl
theorem rat_of (n : Int) {d : Nat} (hd : d ≠ 0) (hg : Nat.gcd n.natAbs d = 1) : ∃ q : Rat, q.num = n ∧ q.den = d := ⟨⟨n, d, hd, hg⟩, rfl, rfl⟩
theorem rat_gcd (q : Rat) : Nat.gcd q.num.natAbs q.den = 1 := q.reduced
theorem nDigits_ge {n : Nat} (h : 0 < n) : 10 ^ (Lib.nDigits n - 1) ≤ n := by
  by_cases h2 : 10 ^ (Lib.nDigits n - 1) ≤ n
  · exact h2
  · have h3 := Lib.nDigits_pos n
    by_cases h4 : Lib.nDigits n - 1 = 0
    · rw [h4]; exact h
    · have := nDigits_le (u := n) (k := Lib.nDigits n - 1) (by omega) (by omega)
      omega
theorem big_high10 : Big < 10 ^ 30103 := by
  rw [big_def]
  exact Nat.le_of_ble_eq_true (by kernel_rfl)
theorem pow_mono_10 {i j : Nat} (h : i ≤ j) : 10 ^ i ≤ 10 ^ j := Nat.pow_le_pow_right (by decide) h
theorem big_many {n : Nat} (h : 30103 < Lib.nDigits n) : ¬ n < Big := by
  have hn : 0 < n := by
    rcases Nat.eq_zero_or_pos n with h0 | h0
    · subst h0; rw [Lib.nDigits_small (by decide)] at h; omega
    · exact h0
  have h1 := nDigits_ge hn
  have h2 := pow_mono_10 (i := 30103) (j := Lib.nDigits n - 1) (by omega)
  have h3 := big_high10
  exact Nat.not_lt.2 (Nat.le_trans (Nat.le_of_lt h3) (Nat.le_trans h2 h1))
theorem abs_digits (z : Int) : Lib.nDigits z.natAbs ≤ (Lib.itoa z).length := by
  unfold Lib.itoa
  split
  · rw [List.length_cons, Lib.decDigits_length]; omega
  · rw [Lib.decDigits_length, show z.toNat = z.natAbs by omega]; exact Nat.le_refl _
theorem dl_digits {n k : Nat} (h : Lib.nDigits n ≤ 9 * k) : dl n ≤ k := by
  refine dl_le ?_
  rw [pow_nine]
  exact Nat.lt_of_lt_of_le (Lib.lt_pow_nDigits n) (Nat.pow_le_pow_right (by omega) h)
end Go.Proofs.YtpmnjjmngogkkaaGreatDoor
end

section
set_option linter.unusedVariables false
set_option linter.unusedSimpArgs false
namespace Go.Proofs.YtpmnjjmngogkkaaGreatDoor
open Go Go.RowKit
theorem r_eqlS {P : Program} {n : Nat} {Q : Post} {ρ : Fr} {w : World} {all rest : List Oper} {d : Tmp} {ty : TypeId} {pos : String} {aft : Array Edge} {t t2 : TypeId} {x y : Operand} {a b : List UInt8} (hx : ev ρ x = strV a) (hy : ev ρ y = strV b)
    (h : WpR P n all Q rest (upd ρ d (.bool (tst (a = b)))) w) : WpR P n all Q (⟨some d, .binOp .eql t x y t2, ty, pos, aft, none⟩ :: rest) ρ w := by
  refine r_val rfl rfl ?_ h
  have e : ((⟨a.toArray⟩ : ByteArray).toList == (⟨b.toArray⟩ : ByteArray).toList) = tst (a = b) := by
    rw [ByteArray.toList_eq, ByteArray.toList_eq, ← decide_tst]
    show (a.toArray.toList == b.toArray.toList) = _
    by_cases h : a = b <;> simp [h]
  simp only [execOp, hx, hy, eqGuard, binOp, Op.stringOp, e]
  rfl
theorem ob_eq_to {F : Fr} {d : Nat} {v : Value} {w w' : World} (hx : Ext w w') : obQ w (some d) (Ent.eq v) .normal (upd F d v) w' := ⟨rfl, hx, d, rfl, upd_same _ _ _, fun h => by cases h⟩
theorem ob_eqv {F : Fr} {d : Nat} {v Y : Value} {w w' : World} (h : v = Y) (hx : Ext w w') : obQ w (some d) (Ent.eq Y) .normal (upd F d v) w' := h ▸ ob_eq_to hx
end Go.Proofs.YtpmnjjmngogkkaaGreatDoor
end

section
set_option linter.unusedVariables false
set_option linter.unusedSimpArgs false
namespace Go.Proofs.YtpmnjjmngogkkaaGreatDoor
open Go Go.RowKit
section rules
variable {P : Program} {n : Nat} {Q : Post} {ρ : Fr} {w : World} {all rest : List Oper} {d d2 : Tmp} {ty ty2 ty3 ty4 : TypeId} {pos pos2 pos3 pos4 : String} {aft aft2 aft3 aft4 : Array Edge}
/-- x := v -/
theorem r_new {T : TypeId} {s b : Nat} {z : Value} {agg : Bool} [ti : TyI P T s b z agg] {y : Operand} {us zs : List Value} {u : Value} (hz : z.cells = zs.toArray) (hy : ∀ g, ev (upd ρ d (.pointer (some ⟨g, 0, none⟩))) y = u) (hc : u.cells = us.toArray)
    (hl : us.length = s) (h1 : ∀ v ∈ us, v.oneCell' = true) (h : ∀ w' g, Ext w w' → w.heap.size ≤ g → Blk w' g T us → WpR P n all Q rest (upd ρ d (.pointer (some ⟨g, 0, none⟩))) w') :
    WpR P n all Q (⟨some d, .alloc T, ty, pos, aft, none⟩ :: ⟨none, .store T (.tmp d) y, ty2, pos2, aft2, none⟩ :: rest) ρ w := by
  refine r_alloc hz ?_
  intro w1 g k1 hg hgs
  have hzl : zs.length = s := by
    have := ti.zsize
    rw [hz] at this
    simpa using this
  refine r_store_all (us := us) (upd_same _ _ _) (hy g) hc hl hg hzl h1 ?_
  intro w2 k2 hg2
  exact h w2 g (k1.past k2 hgs) hgs hg2
end rules
end Go.Proofs.YtpmnjjmngogkkaaGreatDoor
end
