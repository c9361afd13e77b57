/- Decimal strings of magnitudes and integers. -/
import Derived.Test.YtpmnjjmngogkkaaGreatDoorBld
import Derived.Test.YtpmnjjmngogkkaaGreatDoorDec
import Derived.Test.YtpmnjjmngogkkaaGreatDoorInt4
import Derived.Test.YtpmnjjmngogkkaaGreatDoorShelf
set_option linter.unusedVariables false
set_option linter.unusedSimpArgs false
namespace Go.Proofs.YtpmnjjmngogkkaaGreatDoor
open Go Go.RowKit

/-- The library's table of powers of ten lies as it was laid. -/
def Tab (w : World) : Prop := Lib.TabIs Tryz.prog w "internal/strconv.uint64pow10" .u64 Lib.pow10Tab
theorem Tab.to {w w' : World} (h : Tab w) (k : Ext w w') : Tab w' := by
  unfold Tab Lib.TabIs World.var? at *
  cases hg : (Tryz.prog).globalNamed "internal/strconv.uint64pow10" with
  | none => simp [hg] at h
  | some g =>
    simp only [hg, Option.bind_eq_bind, Option.bind_some] at h ⊢
    cases hb : w.heap[g]? with
    | none => rw [hb] at h; cases h
    | some o =>
      rw [k.block g (Array.getElem?_eq_some_iff.1 hb).1 trivial]
      exact h
theorem ext_grow {w : World} {k : Nat} {os : Array Obj} : Ext w (Sort.grow (w.drewN k) os) := by
  refine ⟨rfl, rfl, rfl, ?_, fun i hi _ => ?_⟩
  · simp [Sort.grow, World.drewN]
  · exact Sort.heap_grow_old (w.drewN k) os (by simpa [World.drewN] using hi)
theorem itoa_c {w : World} (ht : Tab w) {n : Nat} (hn : n ≤ 9223372036854775807) :
    Gives Tryz.prog 138 [.int .i64 (n : Int)] w fun v' w' => v' = strV (Lib.decDigits n) ∧ Ext w w' :=
  Calls.mono (Tryz.strconv_Itoa (n : Int) (by omega) (by omega) w ht) fun e w' ⟨he, k, os, hw⟩ => ⟨_, he, by rw [Lib.itoa_nonneg], hw ▸ ext_grow⟩
theorem repeat_zero (c : Nat) : Lib.repeatL [48] c = List.replicate c 48 := by
  induction c with
  | zero => rfl
  | succ c ih =>
    rw [List.replicate_succ, ← ih]
    rfl
theorem repeat_c {w : World} {c : Nat} (hc : c ≤ 1000000) :
    Gives Tryz.prog 139 [strV [48], .int .i64 (c : Int)] w fun v' w' => v' = strV (List.replicate c 48) ∧ Ext w w' :=
  Calls.mono (Tryz.strings_Repeat ⟨[48].toArray⟩ c w (by omega) (by show 1 * c ≤ _; omega)) fun e w' ⟨he, hw⟩ => ⟨_, he, by show Value.string ⟨(Lib.repeatL [48] c).toArray⟩ = _; rw [repeat_zero], .of_below hw⟩
theorem builtString_c {B b : Nat} {l : List UInt8} {w : World} (h : BuiltF B b l w) (hBw : B ≤ w.heap.size) :
    Gives Tryz.prog 140 [.pointer (some ⟨b, 0, none⟩)] w fun v' w' => v' = strV l ∧ Below B w w' :=
  Calls.mono (Tryz.Builder_String_any B b l w h hBw) fun e w' ⟨he, hw⟩ => ⟨_, he, rfl, hw⟩
section rules
variable {P : Program} {n : Nat} {Q : Post} {ρ : Fr} {w : World} {all rest : List Oper} {d : Tmp} {ty : TypeId} {pos : String} {aft : Array Edge}
theorem r_lenS {t : TypeId} [st : StrT P t] {x : Operand} {l : List UInt8} (hv : ev ρ x = strV l)
    (h : WpR P n all Q rest (upd ρ d (.int .i64 (l.length : Nat))) w) : WpR P n all Q (⟨some d, .call ⟨.builtin .len, #[x], #[t]⟩, ty, pos, aft, none⟩ :: rest) ρ w := by
  refine r_len_str hv ?_
  have e : (⟨l.toArray⟩ : ByteArray).size = l.length := by show l.toArray.size = _; simp
  rw [e]
  exact h
theorem r_load_digI {T : TypeId} {b : Nat} {z : Value} [ti : TyI P T 1 b z false] {x : Operand} {S : Nat → Prop} {v : Value} {j : Nat} {l : List Nat} {k : IntKind} (i : Nat)
    (hx : ev ρ x = .pointer (some (adr v j))) (hj : j = i) (hr : Sl S T k w v l) (hi : i < l.length) (h : WpR P n all Q rest (upd ρ d (.int k (l.getD i 0 : Nat))) w) :
    WpR P n all Q (⟨some d, .load T x, ty, pos, aft, none⟩ :: rest) ρ w := by
  subst hj
  exact r_load_dig hx hr hi h
end rules
theorem BuiltF.to {B b : Nat} {l : List UInt8} {w w' : World} (h : BuiltF B b l w) (k : Ext w w') : BuiltF B b l w' := by
  have one : ∀ p, Lib.BuilderAt 172 5 B b p (Lib.byteCells l) w → Lib.BuilderAt 172 5 B b p (Lib.byteCells l) w' := by
    rintro p ⟨hB, v, hb, hown, hne⟩
    exact ⟨hB, v, (k.block b (Array.getElem?_eq_some_iff.1 hb).1 trivial).trans hb, own_to hown k, hne⟩
  exact h.imp (one _) (one _)
theorem ext_below {w w1 w2 : World} {g : Nat} (h : Ext w w1) (hg : w.heap.size ≤ g) (k : Below g w1 w2) : Ext w w2 :=
  ⟨k.os.trans h.os, k.tape.trans h.tape, k.output.trans h.output, Nat.le_trans h.size k.size, fun i hi _ => (k.block i (by omega)).trans (h.block i hi trivial)⟩
theorem div_pos_dl {a k : Nat} (h : k < dl a) : 0 < a / 1000000000 ^ k := by
  have hc := canon_dg a
  have h1 := pow_le_of_canon hc (by intro e; unfold dl at h; rw [e] at h; simp at h)
  rw [nval_dg] at h1
  have h2 : 1000000000 ^ k ≤ 1000000000 ^ ((dg a).length - 1) := Nat.pow_le_pow_right (by omega) (by unfold dl at h; omega)
  exact Nat.div_pos (by omega) (Nat.pow_pos (by omega))
theorem div_step (a k : Nat) : a / 1000000000 ^ k = (dg a).getD k 0 + 1000000000 * (a / 1000000000 ^ (k + 1)) := by
  rw [dg_digit, Nat.pow_succ, ← Nat.div_div_eq_div_mul]
  omega
theorem div_top {a : Nat} (h : 0 < dl a) : a / 1000000000 ^ (dl a - 1) = (dg a).getD (dl a - 1) 0 := by
  have h1 := div_step a (dl a - 1)
  rw [show dl a - 1 + 1 = dl a by omega, Nat.div_eq_of_lt (lt_pow_dl a)] at h1
  omega
theorem nDigits_div (a k : Nat) (h : 0 < dl a) : Lib.nDigits (a / 1000000000 ^ k) ≤ 9 * dl a := by
  refine nDigits_le (by omega) ?_
  have h1 := lt_pow_dl a
  rw [pow_nine] at h1
  exact Nat.lt_of_le_of_lt (Nat.div_le_self ..) h1

theorem mstr_c {S : Nat → Prop} {w : World} {va : Value} {a : Nat} (ht : Tab w) (ha : NatV S 127 .u32 w va a) (hl : dl a ≤ 1099511627776) :
    Gives Tryz.prog 84 [va] w fun v' w' => v' = strV (Lib.decDigits a) ∧ Ext w w' := by
  have hdl : dl a = (dg a).length := rfl
  rw [hdl] at hl
  refine gives_of Tryz.func84 rfl rfl rfl ?_
  repeat (first | refine wp_seq_region ?_ | refine wp_seq_seq ?_ | refine wp_region ?_ | refine r_move (by conv => (lhs; whnf)) ?_ | refine r_assign (by conv => (lhs; whnf)) ?_ | refine r_nil ?_ | refine q_then ?_ | refine r_len (by conv => (lhs; whnf)) (by assumption) ?_ | refine r_eql rfl rfl ?_)
  try refine wp_seq_cond ?_
  refine wp_cond_dec rfl ?_ ?_ <;> intro hc
  · repeat (first | refine wp_seq_region ?_ | refine wp_region ?_ | refine r_assign (by conv => (lhs; whnf)) ?_ | refine r_nil ?_ | refine q_then ?_ | refine wp_ret ?_ | refine q_then_ret ?_)
    refine end_tmp rfl (by conv => (lhs; whnf)) ⟨?_, .refl⟩
    have h0 : a = 0 := dl_eq_zero.1 (by omega)
    subst h0
    rw [Lib.decDigits_one (by decide)]
    rfl
  · repeat (first | refine wp_seq_region ?_ | refine wp_region ?_ | refine wp_skip ?_)
    refine r_alloc (cs := [.pointer none, .slice none 0 0]) rfl ?_
    intro w1 g k1 hg hgs
    have hgl := hg.lt
    have ha0 := ha
    replace ha := ha.to k1
    repeat (first | refine wp_seq_region ?_ | refine wp_region ?_ | refine r_move (by conv => (lhs; whnf)) ?_ | refine r_nil ?_ | refine r_len (by conv => (lhs; whnf)) (by assumption) ?_ | refine r_subI rfl rfl (by omega) (by omega) ?_ | refine r_index (by conv => (lhs; whnf)) rfl (by assumption) (by omega) (by omega) ?_)
    refine r_load_digI ((dg a).length - 1) rfl (by omega) ha (by omega) ?_
    have hd := dg_lt a ((dg a).length - 1)
    repeat (first | refine r_conv rfl (wrap_i64 (by omega) (by omega)) ?_)
    refine r_call (itoa_c (ht.to k1) (by omega)) rfl ?_
    rintro v2 w2 ⟨rfl, k2⟩
    have hb0 : BuiltF g g [] w2 := .inl ⟨Nat.le_refl g, _, (hg.to k2), own_nil, by simp [Value.ownBlock]⟩
    have hk2 := k2.size
    have hn9 := nDigits_limb hd
    refine r_call (writeString_c hb0 (by rw [List.length_nil, Lib.decDigits_length]; omega) (by omega)) rfl ?_
    rintro v3 w3 ⟨hb3, k3⟩
    rw [List.nil_append, ← hdl, ← div_top (by omega)] at hb3
    have hk3 := k3.size
    have kk : Ext w w3 := ext_below (k1.trans k2) hgs k3
    repeat (first | refine wp_seq_region ?_ | refine wp_seq_seq ?_ | refine wp_region ?_ | refine r_move (by conv => (lhs; whnf)) ?_ | refine r_assign (by conv => (lhs; whnf)) ?_ | refine r_nil ?_ | refine q_then ?_ | refine r_len (by conv => (lhs; whnf)) (by assumption) ?_ | refine r_subI rfl rfl (by omega) (by omega) ?_)
    try refine wp_seq_block ?_
    refine wp_for [(4, 5), (21, 37)] (fun k ρ w' => ρ 4 = .int .i64 ((k : Int) - 1) ∧ k < dl a ∧ BuiltF g g (Lib.decDigits (a / 1000000000 ^ k)) w' ∧ Ext w w' ∧ g < w'.heap.size) (dl a - 1) ?_ ?_
    · exact ⟨congrArg (Value.int .i64) (by omega), by omega, hb3, kk, by omega⟩
    rintro k u w4 ⟨h4, hk, hb4, k4, hg4⟩
    refine wp_learn 4 h4 ?_
    repeat (first | refine wp_seq_region ?_ | refine wp_seq_seq ?_ | refine wp_region ?_ | refine r_move (by conv => (lhs; whnf)) ?_ | refine r_nil ?_ | refine q_then ?_ | refine r_geq rfl rfl ?_)
    try refine wp_seq_cond ?_
    refine wp_cond_dec rfl ?_ ?_ <;> intro hc2
    · have ha4 := ha0.to k4
      clear ha
      obtain ⟨i, rfl⟩ : ∃ i, k = i + 1 := ⟨k - 1, by omega⟩
      have hd4 := dg_lt a i
      have hn4 := nDigits_limb hd4
      have hnd := nDigits_div a (i + 1) (by omega)
      repeat (first | refine wp_seq_region ?_ | refine wp_seq_bseq ?_ | refine wp_region ?_ | refine r_move (by conv => (lhs; whnf)) ?_ | refine wp_block_seq ?_ | refine wp_skip ?_ | refine r_index (by conv => (lhs; whnf)) rfl (by assumption) (by omega) (by omega) ?_)
      refine r_load_digI i rfl (by omega) ha4 (by omega) ?_
      repeat (first | refine r_conv rfl (wrap_i64 (by omega) (by omega)) ?_)
      refine r_call (itoa_c (ht.to k4) (by omega)) rfl ?_
      rintro v5 w5 ⟨rfl, k5⟩
      have hlen := Lib.decDigits_length ((dg a).getD i 0)
      repeat (first | refine r_lenS rfl ?_ | refine wp_region ?_ | refine r_move (by conv => (lhs; whnf)) ?_ | refine r_assign (by conv => (lhs; whnf)) ?_ | refine r_nil ?_ | refine r_subI rfl rfl (by omega) (by omega) ?_)
      refine r_call (repeat_c (c := 9 - Lib.nDigits ((dg a).getD i 0)) (by omega)) ?_ ?_
      · exact args2 rfl (congrArg (Value.int .i64) (by omega))
      rintro v6 w6 ⟨rfl, k6⟩
      repeat (first | refine r_move (by conv => (lhs; whnf)) ?_)
      refine r_cat rfl rfl (by rw [List.length_replicate, Lib.decDigits_length]; omega) ?_
      have hb6 : BuiltF g g (Lib.decDigits (a / 1000000000 ^ (i + 1))) w6 := hb4.to (k5.trans k6)
      have hk5 := k5.size
      have hk6 := k6.size
      refine r_call (writeString_c hb6 (by rw [List.length_append, List.length_replicate, Lib.decDigits_length, Lib.decDigits_length]; omega) (by omega)) rfl ?_
      rintro v7 w7 ⟨hb7, k7⟩
      have hk7 := k7.size
      repeat (first | refine wp_region ?_ | refine r_move (by conv => (lhs; whnf)) ?_ | refine r_assign (by conv => (lhs; whnf)) ?_ | refine r_nil ?_ | refine q_then ?_ | refine r_subI rfl rfl (by omega) (by omega) ?_)
      refine ⟨by (repeat (first | refine agree_upd rfl ?_ | exact agree_over | refine agree_sub rfl ?_ | exact agree_refl)), i, by omega, congrArg (Value.int .i64) (by omega), by omega, ?_, ext_below ((k4.trans k5).trans k6) hgs k7, by omega⟩
      rw [div_step a i, dec_limb (div_pos_dl (by omega)) hd4]
      exact hb7
    · repeat (first | refine wp_seq_region ?_ | refine wp_region ?_ | refine wp_exit ?_)
      refine r_call (builtString_c hb4 (by omega)) rfl ?_
      rintro v5 w5 ⟨rfl, k5⟩
      repeat (first | refine r_assign (by conv => (lhs; whnf)) ?_ | refine r_nil ?_ | refine q_then ?_ | refine wp_ret ?_)
      refine end_tmp rfl (by conv => (lhs; whnf)) ⟨?_, ext_below k4 hgs k5⟩
      obtain rfl : k = 0 := by omega
      simp
theorem istr_c {S : Nat → Prop} {w : World} {va : Value} {a : Int} (ht : Tab w) (ha : IntV S 127 .u32 w va a) (hl : zl a ≤ 1099511627776) :
    Gives Tryz.prog 59 [va] w fun v' w' => v' = strV (Lib.itoa a) ∧ Ext w w' := by
  obtain ⟨ma, rfl, ha⟩ := ha
  have hn : Lib.nDigits a.natAbs ≤ 9 * 1099511627776 := by
    by_cases h0 : a.natAbs = 0
    · rw [h0, Lib.nDigits_small (by decide)]; decide
    · have := nDigits_dl (n := a.natAbs) (by omega)
      unfold zl at hl
      omega
  refine gives_of Tryz.func59 rfl rfl rfl ?_
  repeat (first | refine wp_seq_region ?_ | refine wp_region ?_)
  refine r_box (cs := [.bool (tst (a < 0)), ma]) (by conv => (lhs; whnf)) rfl ?_
  intro w1 g k1 hg hgs
  repeat (first | refine r_load_blk rfl hg rfl ?_ | refine wp_seq_region ?_ | refine wp_seq_seq ?_ | refine wp_region ?_ | refine r_assign (by conv => (lhs; whnf)) ?_ | refine r_nil ?_ | refine q_then ?_ | refine r_field rfl ?_)
  try refine wp_seq_cond ?_
  refine wp_cond_dec rfl ?_ ?_ <;> intro hc
  · repeat (first | refine r_load_blk rfl hg rfl ?_ | refine wp_seq_region ?_ | refine wp_region ?_ | refine r_field rfl ?_)
    refine r_call (mstr_c (ht.to k1) (ha.to k1) hl) rfl ?_
    rintro v2 w2 ⟨rfl, k2⟩
    refine r_cat (a := [45]) rfl rfl (by rw [Lib.decDigits_length]; simp; omega) ?_
    repeat (first | refine r_assign (by conv => (lhs; whnf)) ?_ | refine r_nil ?_ | refine q_then ?_ | refine wp_ret ?_ | refine q_then_ret ?_)
    exact end_tmp rfl (by conv => (lhs; whnf)) ⟨by unfold Lib.itoa; rw [if_pos hc]; rfl, k1.trans k2⟩
  · repeat (first | refine r_load_blk rfl hg rfl ?_ | refine wp_seq_region ?_ | refine wp_region ?_ | refine wp_skip ?_ | refine r_field rfl ?_)
    refine r_call (mstr_c (ht.to k1) (ha.to k1) hl) rfl ?_
    rintro v2 w2 ⟨rfl, k2⟩
    repeat (first | refine r_assign (by conv => (lhs; whnf)) ?_ | refine r_nil ?_ | refine q_then ?_ | refine wp_ret ?_)
    exact end_tmp rfl (by conv => (lhs; whnf)) ⟨by unfold Lib.itoa; rw [if_neg hc, show a.natAbs = a.toNat by omega], k1.trans k2⟩
end Go.Proofs.YtpmnjjmngogkkaaGreatDoor
