/- Pars StrR Parse IsDig IParse One Ref7 New Awake -/
import Derived.Test.YtpmnjjmngogkkaaGreatDoorDec
import Derived.Lib.ItoaNum
import Derived.Test.YtpmnjjmngogkkaaGreatDoorEq
import Derived.Test.YtpmnjjmngogkkaaGreatDoorRef5
import Derived.Test.YtpmnjjmngogkkaaGreatDoorStr
import Derived.Test.YtpmnjjmngogkkaaGreatDoorRef1
import Derived.Test.YtpmnjjmngogkkaaGreatDoorShelf2
import Derived.Test.YtpmnjjmngogkkaaGreatDoorTry
import Derived.Test.YtpmnjjmngogkkaaGreatDoorForm
import Derived.Test.YtpmnjjmngogkkaaGreatDoorRef6
import Derived.Test.YtpmnjjmngogkkaaGreatDoorInt4
import Derived.Test.YtpmnjjmngogkkaaGreatDoorRefu
section
/- Plain arithmetic: which lists of bytes are decimal numerals, and of what. No program in sight. -/
set_option linter.unusedVariables false
set_option linter.unusedSimpArgs false
namespace Go.Proofs.YtpmnjjmngogkkaaGreatDoor
open Go

/-- The number that decimal digits make. -/
def digV (l : List UInt8) : Nat := l.foldl (fun a c => 10 * a + (c.toNat - 48)) 0
def Dig (c : UInt8) : Prop := 48 ≤ c.toNat ∧ c.toNat ≤ 57
/-- The decimal digits of a number, without zeros in front. -/
def DecL (l : List UInt8) : Prop := l ≠ [] ∧ (∀ c ∈ l, Dig c) ∧ (l.head? = some 48 → l.length = 1)

theorem digV_nil : digV [] = 0 := rfl
theorem digV_snoc (l : List UInt8) (c : UInt8) : digV (l ++ [c]) = 10 * digV l + (c.toNat - 48) := by
  unfold digV
  rw [List.foldl_append]
  rfl
theorem digV_append (a b : List UInt8) : digV (a ++ b) = digV a * 10 ^ b.length + digV b := by
  induction h : b.length generalizing b with
  | zero =>
    obtain rfl := List.eq_nil_of_length_eq_zero h
    simp [digV_nil]
  | succ k ih =>
    have hne : b ≠ [] := by rintro rfl; simp at h
    have e := List.dropLast_concat_getLast hne
    rw [← e, ← List.append_assoc, digV_snoc, digV_snoc, ih b.dropLast (by rw [List.length_dropLast]; omega), Nat.pow_succ]
    rw [Nat.mul_add, Nat.add_assoc, Nat.mul_left_comm, Nat.mul_comm 10]
theorem digV_lt {l : List UInt8} (h : ∀ c ∈ l, Dig c) : digV l < 10 ^ l.length := by
  induction hl : l.length generalizing l with
  | zero =>
    obtain rfl := List.eq_nil_of_length_eq_zero hl
    simp [digV_nil]
  | succ k ih =>
    have hne : l ≠ [] := by rintro rfl; simp at hl
    have e := List.dropLast_concat_getLast hne
    have h1 := ih (l := l.dropLast) (fun c hc => h c (List.dropLast_subset _ hc)) (by rw [List.length_dropLast]; omega)
    have h2 := h _ (List.getLast_mem hne)
    rw [← e, digV_snoc, Nat.pow_succ]
    unfold Dig at h2
    omega
theorem digV_dec (n : Nat) : digV (Lib.decDigits n) = n := by
  induction n using Nat.strongRecOn with
  | _ n ih =>
    rw [Lib.decDigits]
    by_cases h : n < 10
    · rw [dif_pos h]
      show 10 * 0 + ((UInt8.ofNat (48 + n)).toNat - 48) = n
      rw [UInt8.toNat_ofNat']
      omega
    · rw [dif_neg h, digV_snoc, ih _ (by omega), UInt8.toNat_ofNat']
      omega
theorem dec_ne (n : Nat) : Lib.decDigits n ≠ [] := by
  intro h
  have h1 := Lib.decDigits_length n
  rw [h] at h1
  have := Lib.nDigits_pos n
  simp at h1
  omega
theorem decL_dec (n : Nat) : DecL (Lib.decDigits n) := by
  refine ⟨dec_ne n, ?_, ?_⟩
  · induction n using Nat.strongRecOn with
    | _ n ih =>
      rw [Lib.decDigits]
      intro c hc
      by_cases h : n < 10
      · rw [dif_pos h] at hc
        rw [List.mem_singleton.1 hc]
        unfold Dig
        rw [UInt8.toNat_ofNat']
        omega
      · rw [dif_neg h] at hc
        rcases List.mem_append.1 hc with h1 | h1
        · exact ih _ (by omega) c h1
        · rw [List.mem_singleton.1 h1]
          unfold Dig
          rw [UInt8.toNat_ofNat']
          omega
  · intro h
    by_cases hn : n < 10
    · rw [Lib.decDigits_one hn]; rfl
    · exfalso
      -- the highest digit is not 0
      have hp : 0 < n := by omega
      have h1 := high_digit hp
      have h2 := low_get (k := Lib.nDigits n) (v := n) (i := Lib.nDigits n - 1) (by have := Lib.nDigits_pos n; omega)
      rw [← dec_low] at h2
      have h3 : (Lib.decDigits n).reverse[Lib.nDigits n - 1]? = (Lib.decDigits n).head? := by
        have hl := Lib.decDigits_length n
        have hpos := Lib.nDigits_pos n
        rw [List.getElem?_reverse (by omega), hl, show Lib.nDigits n - 1 - (Lib.nDigits n - 1) = 0 by omega, List.head?_eq_getElem?]
      rw [h3, h] at h2
      have h4 := congrArg UInt8.toNat (Option.some.inj h2)
      rw [UInt8.toNat_ofNat'] at h4
      have h5 : (48 : UInt8).toNat = 48 := rfl
      rw [h5] at h4
      omega
theorem dec_digV {l : List UInt8} (h : DecL l) : Lib.decDigits (digV l) = l := by
  induction hl : l.length generalizing l with
  | zero => exact absurd (List.eq_nil_of_length_eq_zero hl) h.1
  | succ k ih =>
    have e := List.dropLast_concat_getLast h.1
    have h2 := h.2.1 _ (List.getLast_mem h.1)
    obtain ⟨c, hc⟩ : ∃ c, c = l.getLast h.1 := ⟨_, rfl⟩
    obtain ⟨t, ht⟩ : ∃ t, t = l.dropLast := ⟨_, rfl⟩
    rw [← hc] at h2 e
    rw [← ht] at e
    have htl : t.length = k := by rw [ht, List.length_dropLast]; omega
    rw [← e, digV_snoc]
    unfold Dig at h2
    rcases Nat.eq_zero_or_pos k with h0 | h0
    · obtain rfl := List.eq_nil_of_length_eq_zero (htl.trans h0)
      rw [digV_nil, Nat.mul_zero, Nat.zero_add, Lib.decDigits_one (by omega)]
      show [UInt8.ofNat (48 + (c.toNat - 48))] = [c]
      rw [show 48 + (c.toNat - 48) = c.toNat by omega, UInt8.ofNat_toNat]
    · have hne : t ≠ [] := by rintro rfl; simp at htl; omega
      have hhd : l.head? = t.head? := by rw [← e]; cases t with | nil => exact absurd rfl hne | cons x r => rfl
      have h48 : t.head? ≠ some 48 := by
        intro h3
        have := h.2.2 (hhd.trans h3)
        omega
      have hT : DecL t := ⟨hne, fun x hx => h.2.1 x (by rw [← e]; exact List.mem_append_left _ hx), fun h3 => absurd h3 h48⟩
      have hi := ih hT htl
      have hpos : 0 < digV t := by
        rcases Nat.eq_zero_or_pos (digV t) with h3 | h3
        · rw [h3, Lib.decDigits_one (by decide)] at hi
          rw [← hi] at h48
          exact absurd rfl h48
        · exact h3
      rw [Lib.decDigits, dif_neg (by omega), show (10 * digV t + (c.toNat - 48)) / 10 = digV t by omega, hi, show (10 * digV t + (c.toNat - 48)) % 10 = c.toNat - 48 by omega, show 48 + (c.toNat - 48) = c.toNat by omega, UInt8.ofNat_toNat]
theorem decL_iff {l : List UInt8} : DecL l ↔ ∃ n, l = Lib.decDigits n := ⟨fun h => ⟨_, (dec_digV h).symm⟩, fun ⟨n, h⟩ => h ▸ decL_dec n⟩
theorem itoa_inj {a b : Int} (h : Lib.itoa a = Lib.itoa b) : a = b := by
  have hd : ∀ n c, (Lib.decDigits n).head? = some c → 48 ≤ c.toNat := fun n c hc => ((decL_dec n).2.1 c (List.mem_of_head? hc)).1
  have neg : ∀ n m : Nat, Lib.decDigits n = 45 :: Lib.decDigits m → False := fun n m e => by
    have := hd n 45 (by rw [e]; rfl)
    exact absurd this (by decide)
  unfold Lib.itoa at h
  split at h <;> split at h
  · have := congrArg digV (List.cons.inj h).2
    rw [digV_dec, digV_dec] at this
    omega
  · exact (neg _ _ h.symm).elim
  · exact (neg _ _ h).elim
  · have := congrArg digV h
    rw [digV_dec, digV_dec] at this
    omega
/-- Numerals of integers: digits, or a minus and digits that are not 0. -/
theorem itoa_neg_iff {l : List UInt8} : (∃ z : Int, z < 0 ∧ 45 :: l = Lib.itoa z) ↔ DecL l ∧ l.head? ≠ some 48 := by
  constructor
  · rintro ⟨z, hz, h⟩
    unfold Lib.itoa at h
    rw [if_pos hz] at h
    have hl := (List.cons.inj h).2
    refine ⟨decL_iff.2 ⟨_, hl⟩, fun h48 => ?_⟩
    have h1 := (decL_dec z.natAbs).2.2 (by rw [← hl]; exact h48)
    rw [hl] at h48
    rw [Lib.decDigits_length] at h1
    have h2 : z.natAbs < 10 := by
      have := Lib.lt_pow_nDigits z.natAbs
      rw [h1] at this
      omega
    rw [Lib.decDigits_one h2] at h48
    have h3 := congrArg UInt8.toNat (Option.some.inj h48)
    rw [UInt8.toNat_ofNat'] at h3
    have h5 : (48 : UInt8).toNat = 48 := rfl
    rw [h5] at h3
    omega
  · rintro ⟨h, h48⟩
    have hp : 0 < digV l := by
      rcases Nat.eq_zero_or_pos (digV l) with h3 | h3
      · have hi := dec_digV h
        rw [h3, Lib.decDigits_one (by decide)] at hi
        rw [← hi] at h48
        exact absurd rfl h48
      · exact h3
    refine ⟨-(digV l : Int), by omega, ?_⟩
    unfold Lib.itoa
    rw [if_pos (by omega), show (-(digV l : Int)).natAbs = digV l by omega, dec_digV h]
theorem itoa_pos {l : List UInt8} (h : DecL l) : l = Lib.itoa (digV l : Int) := by
  unfold Lib.itoa
  rw [if_neg (by omega), show ((digV l : Int)).toNat = digV l from rfl, dec_digV h]
theorem itoa_cases (z : Int) : (∃ l, Lib.itoa z = 45 :: l ∧ z < 0) ∨ DecL (Lib.itoa z) := by
  unfold Lib.itoa
  split
  · rename_i h; exact .inl ⟨_, rfl, h⟩
  · exact .inr (decL_dec _)
theorem dec_pos {l : List UInt8} (h : DecL l) (h48 : l.head? ≠ some 48) : 0 < digV l := by
  rcases Nat.eq_zero_or_pos (digV l) with h3 | h3
  · have hi := dec_digV h
    rw [h3, Lib.decDigits_one (by decide)] at hi
    rw [← hi] at h48
    exact absurd rfl h48
  · exact h3
theorem itoa_negV {l : List UInt8} (h : DecL l) (h48 : l.head? ≠ some 48) : 45 :: l = Lib.itoa (-(digV l : Int)) := by
  have hp := dec_pos h h48
  unfold Lib.itoa
  rw [if_pos (by omega), show (-(digV l : Int)).natAbs = digV l by omega, dec_digV h]
/-- The digits behind a sign, and whether there is one. -/
def NegS (s : List UInt8) : Prop := s.head? = some 45
instance (s : List UInt8) : Decidable (NegS s) := by unfold NegS; exact inferInstance
def Dgs (s : List UInt8) : List UInt8 := if NegS s then s.drop 1 else s
theorem dgs_neg {s : List UInt8} (h : NegS s) : s = 45 :: Dgs s := by
  unfold Dgs
  rw [if_pos h]
  unfold NegS at h
  cases s with
  | nil => cases h
  | cons c r => simp at h; subst h; rfl
theorem dgs_pos {s : List UInt8} (h : ¬ NegS s) : Dgs s = s := by unfold Dgs; rw [if_neg h]
theorem dgs_le (s : List UInt8) : (Dgs s).length ≤ s.length := by
  unfold Dgs
  split
  · rw [List.length_drop]; omega
  · exact Nat.le_refl _
/-- Which integer a numeral is of. -/
def numV (s : List UInt8) : Int := if NegS s then -(digV (Dgs s) : Int) else digV (Dgs s)
theorem num_val {s : List UInt8} (h : DecL (Dgs s)) (h48 : NegS s → (Dgs s).head? ≠ some 48) : s = Lib.itoa (numV s) := by
  unfold numV
  by_cases hn : NegS s
  · rw [if_pos hn, ← itoa_negV h (h48 hn)]
    exact dgs_neg hn
  · rw [if_neg hn, ← itoa_pos h]
    exact (dgs_pos hn).symm
theorem num_iff (s : List UInt8) : (∃ z, s = Lib.itoa z) ↔ DecL (Dgs s) ∧ (NegS s → (Dgs s).head? ≠ some 48) := by
  constructor
  · rintro ⟨z, hz⟩
    rcases itoa_cases z with ⟨l, hl, hneg⟩ | hd
    · have hn : NegS s := by unfold NegS; rw [hz, hl]; rfl
      have he := dgs_neg hn
      have h1 := itoa_neg_iff.1 ⟨z, hneg, hl.symm⟩
      rw [hz, hl] at he
      have e : Dgs s = l := by rw [hz, hl]; exact (List.cons.inj he).2.symm
      rw [e]
      exact ⟨h1.1, fun _ => h1.2⟩
    · rw [← hz] at hd
      have hn : ¬ NegS s := by
        intro hn
        unfold NegS at hn
        have := (hd.2.1 45 (List.mem_of_head? hn)).1
        exact absurd this (by decide)
      rw [dgs_pos hn]
      exact ⟨hd, fun h => absurd h hn⟩
  · rintro ⟨h, h48⟩
    exact ⟨_, num_val h h48⟩
end Go.Proofs.YtpmnjjmngogkkaaGreatDoor
end

section
/- Rules for strings: a byte of one, parts of one. It holds for every program. -/
set_option linter.unusedVariables false
set_option linter.unusedSimpArgs false
namespace Go.Proofs.YtpmnjjmngogkkaaGreatDoor
open Go Go.RowKit

section rules
variable {P : Program} {n : Nat} {Q : Post} {ρ : Fr} {w : World} {all rest : List Oper} {d : Tmp} {ty : TypeId} {pos : String} {aft : Array Edge}
theorem size_str (l : List UInt8) : (⟨l.toArray⟩ : ByteArray).size = l.length := by show l.toArray.size = _; simp
theorem get_str (l : List UInt8) (i : Nat) : (⟨l.toArray⟩ : ByteArray)[i]? = l[i]? := by
  by_cases h : i < l.length
  · have h2 : i < (⟨l.toArray⟩ : ByteArray).size := by rw [size_str]; exact h
    rw [getElem?_pos _ i h2, List.getElem?_eq_getElem h]
    rfl
  · rw [getElem?_neg _ i (by rw [size_str]; exact h), List.getElem?_eq_none (by omega)]
theorem extract_str (l : List UInt8) (a b : Nat) (hb : b ≤ l.length) : (⟨l.toArray⟩ : ByteArray).extract a b = ⟨((l.take b).drop a).toArray⟩ := by
  apply ByteArray.ext
  rw [ByteArray.data_extract]
  simp [List.drop_take]
/-- s[i] -/
theorem r_indexS {t : TypeId} [st : StrT P t] {x ix : Operand} {l : List UInt8} {k : IntKind} {I : Int} {c : UInt8} (i : Nat) (hx : ev ρ x = strV l) (hi : ev ρ ix = .int k I) (hI : I = (i : Int)) (hc : l[i]? = some c)
    (h : WpR P n all Q rest (upd ρ d (.int .u8 (c.toNat : Nat))) w) : WpR P n all Q (⟨some d, .index t x ix, ty, pos, aft, none⟩ :: rest) ρ w := by
  subst hI
  refine r_val rfl rfl ?_ h
  have h1 : (⟨l.toArray⟩ : ByteArray)[i]? = some c := by rw [get_str]; exact hc
  simp [execOp, hx, hi, Instr.index, asIntOf, run_underlying st.und, h1]
/-- s[k:] -/
theorem r_sliceS_low {t : TypeId} [st : StrT P t] {x lo : Operand} {l : List UInt8} {k : IntKind} {I : Int} (i : Nat) (hx : ev ρ x = strV l) (hi : ev ρ lo = .int k I) (hI : I = (i : Int)) (hl : i ≤ l.length)
    (h : WpR P n all Q rest (upd ρ d (strV (l.drop i))) w) : WpR P n all Q (⟨some d, .slice t x (some lo) none none, ty, pos, aft, none⟩ :: rest) ρ w := by
  subst hI
  refine r_val rfl rfl ?_ h
  have h1 := size_str l
  have h2 := extract_str l i l.length (Nat.le_refl _)
  rw [List.take_of_length_le (Nat.le_refl _)] at h2
  simp [execOp, hx, hi, Instr.sliceAt, Instr.slice, Instr.sliceBounds, Instr.sliceBound, asIntOf, run_underlying st.und, h1, hl, h2]
/-- s[:k] -/
theorem r_sliceS_high {t : TypeId} [st : StrT P t] {x hi : Operand} {l : List UInt8} {k : IntKind} {I : Int} (i : Nat) (hx : ev ρ x = strV l) (hi' : ev ρ hi = .int k I) (hI : I = (i : Int)) (hl : i ≤ l.length)
    (h : WpR P n all Q rest (upd ρ d (strV (l.take i))) w) : WpR P n all Q (⟨some d, .slice t x none (some hi) none, ty, pos, aft, none⟩ :: rest) ρ w := by
  subst hI
  refine r_val rfl rfl ?_ h
  have h1 := size_str l
  have h2 := extract_str l 0 i hl
  rw [List.drop_zero] at h2
  simp [execOp, hx, hi', Instr.sliceAt, Instr.slice, Instr.sliceBounds, Instr.sliceBound, asIntOf, run_underlying st.und, h1, hl, h2]
end rules
end Go.Proofs.YtpmnjjmngogkkaaGreatDoor
end

section
/- The reference reads integers. -/
set_option linter.unusedVariables false
set_option linter.unusedSimpArgs false
namespace Go.Proofs.YtpmnjjmngogkkaaGreatDoor
open Go Go.RowKit

/-- What a reading gives: the integer and true, or nothing and false. -/
def Parsed (S : Nat → Prop) (w : World) (v : Value) (s : List UInt8) : Prop :=
  (∃ z vz, s = Lib.itoa z ∧ v = .tuple #[vz, .bool true] ∧ ZV S w vz z) ∨ ((∀ z, s ≠ Lib.itoa z) ∧ v = .tuple #[.agg #[.bool false, .slice none 0 0], .bool false])
/-- D is no numeral behind the sign. -/
def BadD (s : List UInt8) : Prop := Dgs s = [] ∨ ((Dgs s).head? = some 48 ∧ (1 < (Dgs s).length ∨ NegS s))
theorem bad_not {s : List UInt8} (h : BadD s) : ∀ z, s ≠ Lib.itoa z := by
  intro z hz
  obtain ⟨h1, h2⟩ := (num_iff s).1 ⟨z, hz⟩
  rcases h with h | ⟨h, h3⟩
  · exact h1.1 h
  · rcases h3 with h3 | h3
    · have := h1.2.2 h; omega
    · exact h2 h3 h
theorem digit_not {s : List UInt8} {c : UInt8} (hc : c ∈ Dgs s) (h : ¬ Dig c) : ∀ z, s ≠ Lib.itoa z := fun z hz => h (((num_iff s).1 ⟨z, hz⟩).1.2.1 c hc)
theorem good_dec {s : List UInt8} (hb : ¬ BadD s) (hd : ∀ c ∈ Dgs s, Dig c) : DecL (Dgs s) ∧ (NegS s → (Dgs s).head? ≠ some 48) := by
  unfold BadD at hb
  refine ⟨⟨fun h => hb (.inl h), hd, fun h => ?_⟩, fun hn h => hb (.inr ⟨h, .inr hn⟩)⟩
  have h1 : ¬ 1 < (Dgs s).length := fun h1 => hb (.inr ⟨h, .inl h1⟩)
  have h2 : Dgs s ≠ [] := fun h => hb (.inl h)
  have := List.length_pos_iff.2 h2
  omega

set_option maxHeartbeats 2000000 in
theorem zparse_c {S : Nat → Prop} {w : World} {s : List UInt8} (hS : Up S w) (hl : s.length ≤ 140737488351232) :
    Gives Tryz.prog 56 [strV s] w fun v' w' => Ext w w' ∧ Parsed S w' v' s := by
  have hDl := dgs_le s
  refine gives_of Tryz.func56 rfl rfl rfl ?_
  repeat (first | refine wp_seq_region ?_ | refine wp_region ?_)
  refine r_alloc (cs := [.bool false, .slice none 0 0]) rfl ?_
  intro w1 g k1 hg hgs
  repeat (first | refine r_lenS rfl ?_ | refine wp_seq_region ?_ | refine wp_region ?_ | refine r_move (by conv => (lhs; whnf)) ?_ | refine r_assign (by conv => (lhs; whnf)) ?_ | refine r_nil ?_ | refine r_gtr rfl rfl ?_)
  refine r_mid [(12, 16), (4, 4)] (fun ρ w' => ρ 4 = .bool (tst (NegS s)) ∧ w' = w1) ?_ ?_
  · refine r_guard_split rfl rfl ?_ ?_ <;> intro hlt
    · obtain ⟨c, hc⟩ : ∃ c, s[0]? = some c := ⟨s[0], List.getElem?_eq_getElem (by omega)⟩
      repeat (first | refine r_indexS 0 rfl rfl rfl hc ?_ | refine r_move (by conv => (lhs; whnf)) ?_ | refine r_assign (by conv => (lhs; whnf)) ?_ | refine r_nil ?_ | refine q_then ?_ | refine r_guard_run rfl rfl ?_ | refine r_pick_true rfl (by conv => (lhs; whnf)) ?_ | refine r_eql rfl rfl ?_)
      refine ⟨by (repeat (first | refine agree_upd rfl ?_ | exact agree_over | refine agree_sub rfl ?_ | exact agree_refl | refine agree_base rfl ?_ | refine agree_base' rfl ?_)), congrArg Value.bool (tst_congr ?_), rfl⟩
      unfold NegS
      rw [List.head?_eq_getElem?, hc]
      constructor
      · intro h
        congr 1
        apply UInt8.toNat_inj.1
        show c.toNat = 45
        omega
      · intro h
        have := Option.some.inj h
        subst this
        rfl
    · repeat (first | refine r_assign (by conv => (lhs; whnf)) ?_ | refine r_nil ?_ | refine q_then ?_ | refine r_guard_skip rfl rfl rfl ?_ | refine r_pick_false rfl (by conv => (lhs; whnf)) ?_)
      refine ⟨by (repeat (first | refine agree_upd rfl ?_ | exact agree_over | refine agree_sub rfl ?_ | exact agree_refl | refine agree_base rfl ?_ | refine agree_base' rfl ?_)), ?_, rfl⟩
      have h0 : s = [] := List.eq_nil_of_length_eq_zero (by omega)
      rw [tst_false (show ¬ NegS s by rw [h0]; unfold NegS; simp)]
      rfl
  rintro u1 w2 ⟨h4, rfl⟩
  refine wp_learn 4 h4 ?_
  clear h4
  repeat (first | refine wp_seq_region ?_ | refine wp_seq_seq ?_ | refine wp_region ?_ | refine r_move (by conv => (lhs; whnf)) ?_ | refine r_nil ?_ | refine q_then ?_)
  first | refine wp_seq_cond ?_ | refine wp_thenB ?_ | refine wp_thenBB ?_ | skip
  refine wp_join ((0, 0) :: [(0, 0), (18, 19)]) (fun ρ w' => w' = w2 ∧ ρ 0 = strV (Dgs s)) rfl ?_ ?_ ?_
  · intro hn
    have hne : 1 ≤ s.length := by rw [dgs_neg hn]; simp
    repeat (first | refine r_sliceS_low 1 rfl rfl rfl hne ?_ | refine wp_region ?_ | refine r_move (by conv => (lhs; whnf)) ?_ | refine r_assign (by conv => (lhs; whnf)) ?_ | refine r_nil ?_ | refine q_then ?_)
    refine ⟨by (repeat (first | refine agree_upd rfl ?_ | exact agree_over | refine agree_sub rfl ?_ | exact agree_refl | refine agree_base rfl ?_ | refine agree_base' rfl ?_)), rfl, ?_⟩
    unfold Dgs
    rw [if_pos hn]
    rfl
  · intro hn
    repeat (first | refine q_then ?_ | refine wp_skip ?_)
    refine ⟨by (repeat (first | refine agree_upd rfl ?_ | exact agree_over | refine agree_sub rfl ?_ | exact agree_refl | refine agree_base rfl ?_ | refine agree_base' rfl ?_)), rfl, ?_⟩
    rw [dgs_pos hn]
    rfl
  rintro u2 w3 ⟨rfl, h0⟩
  refine wp_learn 0 h0 ?_
  clear h0
  have hbd : BadD s ↔ (Dgs s = [] ∨ ((Dgs s).head? = some 48 ∧ (1 < (Dgs s).length ∨ NegS s))) := Iff.rfl
  obtain ⟨D, hD⟩ : ∃ D, D = Dgs s := ⟨_, rfl⟩
  rw [← hD] at hbd hDl ⊢
  repeat (first | refine wp_seq_region ?_ | refine wp_seq_seq ?_ | refine wp_region ?_ | refine r_move (by conv => (lhs; whnf)) ?_)
  refine r_eqlS (b := []) rfl rfl ?_
  repeat (first | refine r_move (by conv => (lhs; whnf)) ?_)
  refine r_mid [(22, 34)] (fun ρ w' => ρ 34 = .bool (tst (BadD s)) ∧ w' = w3) ?_ ?_
  · refine r_guard_split rfl rfl ?_ ?_ <;> intro hnil
    · repeat (first | refine r_nil ?_ | refine q_then ?_ | refine r_guard_skip rfl rfl rfl ?_ | refine r_guard_undef rfl rfl ?_ | refine r_pick_true rfl (by conv => (lhs; whnf)) ?_)
      exact ⟨by (repeat (first | refine agree_upd rfl ?_ | exact agree_over | refine agree_sub rfl ?_ | exact agree_refl | refine agree_base rfl ?_ | refine agree_base' rfl ?_)), by rw [tst_true (hbd.2 (Or.inl hnil))]; rfl, rfl⟩
    · obtain ⟨c, hc⟩ : ∃ c, D[0]? = some c := ⟨D[0]'(List.length_pos_iff.2 hnil), List.getElem?_eq_getElem _⟩
      have hc48 : (c.toNat : Int) = 48 ↔ D.head? = some 48 := by
        rw [List.head?_eq_getElem?, hc]
        constructor
        · intro h
          congr 1
          apply UInt8.toNat_inj.1
          show c.toNat = 48
          omega
        · intro h
          have := Option.some.inj h
          subst this
          rfl
      repeat (first | refine r_indexS 0 rfl rfl rfl hc ?_ | refine r_move (by conv => (lhs; whnf)) ?_ | refine r_guard_run rfl rfl ?_ | refine r_eql rfl rfl ?_)
      refine r_guard_split rfl rfl ?_ ?_ <;> intro h48
      · repeat (first | refine r_lenS rfl ?_ | refine r_move (by conv => (lhs; whnf)) ?_ | refine r_guard_run rfl rfl ?_ | refine r_gtr rfl rfl ?_)
        refine r_guard_split rfl rfl ?_ ?_ <;> intro h1
        · repeat (first | refine r_nil ?_ | refine q_then ?_ | refine r_guard_run rfl rfl ?_ | refine r_guard_skip rfl rfl rfl ?_ | refine r_pick_true rfl (by conv => (lhs; whnf)) ?_ | refine r_pick_false rfl (by conv => (lhs; whnf)) ?_)
          exact ⟨by (repeat (first | refine agree_upd rfl ?_ | exact agree_over | refine agree_sub rfl ?_ | exact agree_refl | refine agree_base rfl ?_ | refine agree_base' rfl ?_)), by rw [tst_true (hbd.2 (Or.inr ⟨hc48.1 h48, Or.inl (by omega)⟩))]; rfl, rfl⟩
        · repeat (first | refine r_move (by conv => (lhs; whnf)) ?_ | refine r_nil ?_ | refine q_then ?_ | refine r_guard_run rfl rfl ?_ | refine r_pick_true rfl (by conv => (lhs; whnf)) ?_ | refine r_pick_false rfl (by conv => (lhs; whnf)) ?_)
          refine ⟨by (repeat (first | refine agree_upd rfl ?_ | exact agree_over | refine agree_sub rfl ?_ | exact agree_refl | refine agree_base rfl ?_ | refine agree_base' rfl ?_)), congrArg Value.bool (tst_congr ?_), rfl⟩
          rw [hbd]
          exact ⟨fun h => Or.inr ⟨hc48.1 h48, Or.inr h⟩, fun h => h.elim (fun h => absurd h hnil) fun h => h.2.elim (fun h => absurd (by omega) h1) id⟩
      · repeat (first | refine r_nil ?_ | refine q_then ?_ | refine r_guard_run rfl rfl ?_ | refine r_guard_skip rfl rfl rfl ?_ | refine r_guard_undef rfl rfl ?_ | refine r_pick_false rfl (by conv => (lhs; whnf)) ?_)
        refine ⟨by (repeat (first | refine agree_upd rfl ?_ | exact agree_over | refine agree_sub rfl ?_ | exact agree_refl | refine agree_base rfl ?_ | refine agree_base' rfl ?_)), ?_, rfl⟩
        rw [tst_false fun h => (hbd.1 h).elim hnil fun h => h48 (hc48.2 h.1)]
        rfl
  rintro u3 w4 ⟨h34, rfl⟩
  refine wp_learn 34 h34 ?_
  clear h34
  skip
  try refine wp_seq_cond ?_
  refine wp_cond_dec rfl ?_ ?_ <;> intro hbad
  · repeat (first | refine wp_seq_region ?_ | refine wp_region ?_)
    refine r_build0 (cs := [.bool false, .slice none 0 0]) rfl ?_
    refine r_store2 rfl (by conv => (lhs; whnf)) hg rfl rfl ?_
    intro w5 k5 hg5
    repeat (first | refine r_assign (by conv => (lhs; whnf)) ?_ | refine r_nil ?_ | refine q_then ?_ | refine wp_ret ?_ | refine q_then_ret ?_)
    exact end2 rfl (resV_agg (by conv => (lhs; whnf)) hg5 rfl) (resV_tmp (by conv => (lhs; whnf))) ⟨k1.past k5 hgs, .inr ⟨bad_not hbad, rfl⟩⟩
  · repeat (first | refine r_lenS rfl ?_ | refine wp_seq_region ?_ | refine wp_seq_seq ?_ | refine wp_region ?_ | refine r_move (by conv => (lhs; whnf)) ?_ | refine r_assign (by conv => (lhs; whnf)) ?_ | refine r_nil ?_ | refine q_then ?_ | refine wp_skip ?_ | refine r_subI rfl rfl (by omega) (by omega) ?_)
    try refine wp_seq_block ?_
    refine wp_for [(3, 3), (5, 8), (39, 70)] (fun k ρ w' => ∃ (L : List Nat) (v : Value) (limb e : Nat), k ≤ D.length ∧ ρ 8 = .int .i64 ((k : Int) - 1) ∧ ρ 5 = v ∧ ρ 6 = .int .i64 (limb : Int) ∧ ρ 7 = .int .i64 ((10 ^ e : Nat) : Int) ∧ e < 9 ∧ limb < 10 ^ e ∧ k + 9 * L.length + e = D.length ∧
        (∀ c ∈ D.drop k, Dig c) ∧ digV (D.drop k) = nval L + 1000000000 ^ L.length * limb ∧ Digs L ∧ Ext w4 w' ∧ Own w4.heap.size 3 1 w' v L.length (L.map fun d : Nat => .int .i64 d)) D.length
      ⟨[], _, 0, 0, Nat.le_refl _, rfl, rfl, rfl, rfl, by omega, by simp, by simp, by rw [List.drop_of_length_le (Nat.le_refl _)]; simp, by rw [List.drop_of_length_le (Nat.le_refl _)]; simp [digV, nval], digs_nil, .refl, own_nil⟩ ?_
    rintro k u4 w5 ⟨L, v, limb, e, hkD, h8, h5, h6, h7, he9, hlimb, hcnt, hdg, hval, hLd, k5, ho⟩
    refine wp_learn 8 h8 (wp_learn 5 h5 (wp_learn 6 h6 (wp_learn 7 h7 ?_)))
    clear h8 h5 h6 h7
    have hg5 := hg.to k5
    have hp9 : 10 ^ e ≤ 10 ^ 8 := Nat.pow_le_pow_right (by omega) (by omega)
    repeat (first | refine wp_seq_region ?_ | refine wp_seq_seq ?_ | refine wp_region ?_ | refine r_move (by conv => (lhs; whnf)) ?_ | refine r_nil ?_ | refine q_then ?_ | refine r_geq rfl rfl ?_)
    try refine wp_seq_cond ?_
    refine wp_cond_dec rfl ?_ ?_ <;> intro hk
    · obtain ⟨m, rfl⟩ : ∃ m, k = m + 1 := ⟨k - 1, by omega⟩
      obtain ⟨c, hc⟩ : ∃ c, D[m]? = some c := ⟨D[m], List.getElem?_eq_getElem (by omega)⟩
      have hcm : c ∈ D := List.mem_of_getElem? hc
      have hdrop : D.drop m = c :: D.drop (m + 1) := by
        rw [List.drop_eq_getElem_cons (by omega)]
        rw [List.getElem?_eq_getElem (by omega)] at hc
        rw [Option.some.inj hc]
      have hc256 := c.toNat_lt
      repeat (first | refine r_indexS m rfl rfl (by omega) hc ?_ | refine wp_seq_region ?_ | refine wp_seq_seq ?_ | refine wp_seq_bseq ?_ | refine wp_region ?_ | refine r_move (by conv => (lhs; whnf)) ?_ | refine wp_block_seq ?_ | refine wp_skip ?_ | refine r_lss rfl rfl ?_)
      refine r_mid [(47, 52)] (fun ρ w' => ρ 52 = .bool (tst (¬ Dig c)) ∧ w' = w5) ?_ ?_
      · refine r_guard_split rfl rfl ?_ ?_ <;> intro hlo
        · repeat (first | refine r_nil ?_ | refine q_then ?_ | refine r_guard_skip rfl rfl rfl ?_ | refine r_pick_true rfl (by conv => (lhs; whnf)) ?_)
          exact ⟨by (repeat (first | refine agree_upd rfl ?_ | exact agree_over | refine agree_sub rfl ?_ | exact agree_refl | refine agree_base rfl ?_ | refine agree_base' rfl ?_)), by rw [tst_true (show ¬ Dig c from fun h => by unfold Dig at h; omega)]; rfl, rfl⟩
        · repeat (first | refine r_indexS m rfl rfl (by omega) hc ?_ | refine r_move (by conv => (lhs; whnf)) ?_ | refine r_nil ?_ | refine q_then ?_ | refine r_guard_run rfl rfl ?_ | refine r_pick_false rfl (by conv => (lhs; whnf)) ?_ | refine r_gtr rfl rfl ?_)
          refine ⟨by (repeat (first | refine agree_upd rfl ?_ | exact agree_over | refine agree_sub rfl ?_ | exact agree_refl | refine agree_base rfl ?_ | refine agree_base' rfl ?_)), congrArg Value.bool (tst_congr ?_), rfl⟩
          unfold Dig
          omega
      rintro u5 w6 ⟨h52, rfl⟩
      refine wp_learn 52 h52 ?_
      clear h52
      skip
      try refine wp_seq_cond ?_
      refine wp_cond_dec rfl ?_ ?_ <;> intro hnd
      · repeat (first | refine wp_seq_region ?_ | refine wp_region ?_)
        refine r_build0 (cs := [.bool false, .slice none 0 0]) rfl ?_
        refine r_store2 rfl (by conv => (lhs; whnf)) hg5 rfl rfl ?_
        intro w7 k7 hg7
        repeat (first | refine r_assign (by conv => (lhs; whnf)) ?_ | refine r_nil ?_ | refine q_then ?_ | refine wp_ret ?_ | refine q_then_ret ?_ | refine q_block_ret ?_)
        exact end2 rfl (resV_agg (by conv => (lhs; whnf)) hg7 rfl) (resV_tmp (by conv => (lhs; whnf))) ⟨(k1.trans k5).past k7 hgs, .inr ⟨digit_not (hD ▸ hcm) hnd, rfl⟩⟩
      · have hdc : Dig c := Classical.not_not.1 hnd
        have hdc2 : 48 ≤ c.toNat ∧ c.toNat ≤ 57 := hdc
        have hpe : 10 ^ (e + 1) = 10 * 10 ^ e := by rw [Nat.pow_succ, Nat.mul_comm]
        obtain ⟨d, hd⟩ : ∃ d, d = c.toNat - 48 := ⟨_, rfl⟩
        have hmul : 10 ^ e * d ≤ 10 ^ e * 9 := Nat.mul_le_mul_left _ (by omega)
        have hmi : (((10 ^ e : Nat) : Int)) * ((c.toNat : Int) - 48) = ((10 ^ e * d : Nat) : Int) := by
          rw [show (c.toNat : Int) - 48 = (d : Int) by omega]
          exact (Int.natCast_mul ..).symm
        have hnew : digV (D.drop m) = nval L + 1000000000 ^ L.length * (limb + 10 ^ e * d) := by
          rw [hdrop, show c :: D.drop (m + 1) = [c] ++ D.drop (m + 1) from rfl, digV_append, hval, List.length_drop]
          have h1 : digV [c] = d := by rw [hd]; show 10 * 0 + (c.toNat - 48) = _; omega
          have h2 : 10 ^ (D.length - (m + 1)) = 1000000000 ^ L.length * 10 ^ e := by
            rw [show D.length - (m + 1) = 9 * L.length + e by omega, Nat.pow_add, Nat.pow_mul]
          rw [h1, h2, Nat.mul_add, Nat.mul_left_comm, Nat.mul_comm d]
          omega
        have hp8 : e = 8 → 10 ^ e = 100000000 := fun h => by rw [h]
        have hp7 : e ≠ 8 → 10 ^ e ≤ 10000000 := fun h => Nat.pow_le_pow_right (n := 10) (by omega) (by omega : e ≤ 7)
        generalize 10 ^ e = p at *
        have hlimb2 : limb + p * d < 10 * p := by omega
        repeat (first | refine r_indexS m rfl rfl (by omega) hc ?_ | refine r_subB rfl rfl (by omega) (by omega) ?_ | refine r_mulI rfl rfl (by rw [hmi]; omega) (by rw [hmi]; omega) ?_ | refine r_addI rfl rfl (by rw [hmi]; omega) (by rw [hmi]; omega) ?_ | refine r_mulI rfl rfl (by omega) (by omega) ?_ | refine wp_seq_region ?_ | refine wp_region ?_ | refine r_move (by conv => (lhs; whnf)) ?_ | refine r_assign (by conv => (lhs; whnf)) ?_ | refine r_nil ?_ | refine q_then ?_ | refine wp_skip ?_ | refine r_eql rfl rfl ?_ | refine r_conv rfl (wrap_i64 (by omega) (by omega)) ?_)
        rw [hmi]
        have hsum : (limb : Int) + ((p * d : Nat) : Int) = ((limb + p * d : Nat) : Int) := (Int.natCast_add ..).symm
        rw [hsum]
        generalize limb + p * d = x at *
        try refine wp_seq_cond ?_
        refine wp_cond_dec rfl ?_ ?_ <;> intro h9
        · have he8 : e = 8 := by
            rcases Nat.lt_or_ge e 8 with h | h
            · have := hp7 (by omega); omega
            · omega
          have hpv := hp8 he8
          repeat (first | refine wp_seq_region ?_ | refine wp_region ?_ | refine r_move (by conv => (lhs; whnf)) ?_)
          refine r_lit1 (by conv => (lhs; whnf)) rfl ?_
          intro w7 g7 k7 hg7 hgs7
          refine r_append1 (by conv => (lhs; whnf)) (own_to ho k7) rfl hg7 (by omega) rfl (by simp [Value.oneCell']) (by unfold maxLen; omega) (by omega) (by have := k5.size; have := k7.size; omega) ?_
          intro v8 w8 ho8 k8
          have hlen : (L ++ [x]).length = L.length + 1 := by rw [List.length_append]; rfl
          repeat (first | refine wp_region ?_ | refine r_move (by conv => (lhs; whnf)) ?_ | refine r_assign (by conv => (lhs; whnf)) ?_ | refine r_nil ?_ | refine q_then ?_ | refine r_subI rfl rfl (by omega) (by omega) ?_)
          refine ⟨by (repeat (first | refine agree_upd rfl ?_ | exact agree_over | refine agree_sub rfl ?_ | exact agree_refl | refine agree_base rfl ?_ | refine agree_base' rfl ?_)), m, by omega, L ++ [x], v8, 0, 0, by omega, congrArg (Value.int .i64) (by omega), rfl, rfl, rfl, by omega, by omega, by rw [hlen]; omega, ?_, ?_, hLd.append (Digs.cons (by omega) digs_nil), ?_, by simpa using ho8⟩
          · rw [hdrop]
            intro y hy
            rcases List.mem_cons.1 hy with rfl | hy
            · exact hdc
            · exact hdg y hy
          · rw [hnew, hlen, nval_snoc, Nat.mul_zero, Nat.add_zero]
          · exact Keeps.later (k5.trans k7) k8 fun i hi _ e => by have := (ho.lt i e.symm).1; omega
        · have he8 : e ≠ 8 := fun h => h9 (by have := hp8 h; omega)
          repeat (first | refine wp_region ?_ | refine r_move (by conv => (lhs; whnf)) ?_ | refine r_assign (by conv => (lhs; whnf)) ?_ | refine r_nil ?_ | refine q_then ?_ | refine wp_skip ?_ | refine r_subI rfl rfl (by omega) (by omega) ?_)
          refine ⟨by (repeat (first | refine agree_upd rfl ?_ | exact agree_over | refine agree_sub rfl ?_ | exact agree_refl | refine agree_base rfl ?_ | refine agree_base' rfl ?_)), m, by omega, L, v, x, e + 1, by omega, congrArg (Value.int .i64) (by omega), rfl, rfl, ?_, by omega, by rw [hpe]; omega, by omega, ?_, hnew, hLd, k5, ho⟩
          · rw [hpe]; exact congrArg (Value.int .i64) (by omega)
          · rw [hdrop]
            intro y hy
            rcases List.mem_cons.1 hy with rfl | hy
            · exact hdc
            · exact hdg y hy
    · obtain rfl : k = 0 := by omega
      rw [List.drop_zero] at hdg hval
      have hS5 : Up S w5 := hS.to (k1.trans k5)
      have hlimb9 : limb < 1000000000 := by omega
      repeat (first | refine wp_seq_region ?_ | refine wp_seq_seq ?_ | refine wp_region ?_ | refine r_move (by conv => (lhs; whnf)) ?_ | refine r_nil ?_ | refine q_then ?_ | refine wp_exit ?_ | refine r_gtr rfl rfl ?_)
      first | refine wp_seq_cond ?_ | refine wp_thenB ?_ | refine wp_thenBB ?_ | skip
      refine wp_join [(5, 5), (73, 76)] (fun ρ w' => ∃ (L' : List Nat) (v' : Value), ρ 5 = v' ∧ Digs L' ∧ nval L' = digV D ∧ Ext w4 w' ∧ Own w4.heap.size 3 1 w' v' L'.length (L'.map fun d : Nat => .int .i64 d)) rfl ?_ ?_ ?_
      · intro hpos
        repeat (first | refine wp_region ?_ | refine r_move (by conv => (lhs; whnf)) ?_)
        refine r_lit1 (by conv => (lhs; whnf)) rfl ?_
        intro w7 g7 k7 hg7 hgs7
        refine r_append1 (by conv => (lhs; whnf)) (own_to ho k7) rfl hg7 (by omega) rfl (by simp [Value.oneCell']) (by unfold maxLen; omega) (by omega) (by have := k5.size; have := k7.size; omega) ?_
        intro v8 w8 ho8 k8
        have hlen : (L ++ [limb]).length = L.length + 1 := by rw [List.length_append]; rfl
        repeat (first | refine r_assign (by conv => (lhs; whnf)) ?_ | refine r_nil ?_ | refine q_then ?_)
        refine ⟨by (repeat (first | refine agree_upd rfl ?_ | exact agree_over | refine agree_sub rfl ?_ | exact agree_refl | refine agree_base rfl ?_ | refine agree_base' rfl ?_)), L ++ [limb], v8, rfl, hLd.append (Digs.cons (by omega) digs_nil), by rw [nval_snoc, hval], ?_, by rw [hlen]; simpa using ho8⟩
        exact Keeps.later (k5.trans k7) k8 fun i hi _ e => by have := (ho.lt i e.symm).1; omega
      · intro hpos
        repeat (first | refine q_then ?_ | refine wp_skip ?_)
        refine ⟨by (repeat (first | refine agree_upd rfl ?_ | exact agree_over | refine agree_sub rfl ?_ | exact agree_refl | refine agree_base rfl ?_ | refine agree_base' rfl ?_)), L, v, rfl, hLd, ?_, k5, ho⟩
        have : limb = 0 := by omega
        rw [hval, this, Nat.mul_zero, Nat.add_zero]
      rintro u6 w6 ⟨L', v', h5, hLd', hval', k6, ho'⟩
      refine wp_learn 5 h5 ?_
      clear h5 ho
      repeat (first | refine wp_seq_region ?_ | refine wp_region ?_ | refine r_move (by conv => (lhs; whnf)) ?_)
      refine r_call (rtrim_c (S := S) (v := v') (l := L') (Row.of_own ho' (hS.to k1)) hLd') rfl ?_
      rintro v7 w7 ⟨rfl, h7⟩
      rw [hval', hD] at h7
      refine r_call (zInt_c (p := NegS s) (n := digV (Dgs s)) (numV s) h7 ?_ ?_) rfl ?_
      · unfold numV; split <;> omega
      · unfold numV
        split
        · rename_i h; exact ⟨fun h2 => ⟨h, by omega⟩, fun h2 => by omega⟩
        · rename_i h; exact ⟨fun h2 => by omega, fun h2 => absurd h2.1 h⟩
      rintro v8 w8 ⟨k8, m8, rfl, h8⟩
      have hg8 := (hg.to k6).to k8
      skip
      refine r_store2 rfl (by conv => (lhs; whnf)) hg8 rfl h8.one ?_
      intro w9 k9 hg9
      repeat (first | refine r_assign (by conv => (lhs; whnf)) ?_ | refine r_nil ?_ | refine q_then ?_ | refine wp_ret ?_)
      have hgood := good_dec hbad (hD ▸ hdg)
      exact end2 rfl (resV_agg (by conv => (lhs; whnf)) hg9 rfl) (resV_tmp (by conv => (lhs; whnf))) ⟨((k1.trans k6).trans k8).past k9 hgs, .inl ⟨_, _, num_val hgood.1 hgood.2, rfl, m8, rfl, h8.wrT k9 hg8 (by decide)⟩⟩
end Go.Proofs.YtpmnjjmngogkkaaGreatDoor
end

section
/- Decimal digits read by the program: whether bytes are digits, and what number they make. -/
set_option linter.unusedVariables false
set_option linter.unusedSimpArgs false
namespace Go.Proofs.YtpmnjjmngogkkaaGreatDoor
open Go Go.RowKit

abbrev tenDigits : List UInt8 := [48, 49, 50, 51, 52, 53, 54, 55, 56, 57]
theorem ten_contains (c : UInt8) : tenDigits.contains c = true ↔ Dig c := by
  have h := c.toNat_lt
  constructor
  · intro h
    simp only [List.contains_eq_mem, decide_eq_true_eq, List.mem_cons, List.not_mem_nil, or_false] at h
    rcases h with rfl | rfl | rfl | rfl | rfl | rfl | rfl | rfl | rfl | rfl <;> exact ⟨by decide, by decide⟩
  · rintro ⟨h1, h2⟩
    simp only [List.contains_eq_mem, decide_eq_true_eq, List.mem_cons, List.not_mem_nil, or_false]
    have e : ∀ k : UInt8, c.toNat = k.toNat → c = k := fun k hk => UInt8.toNat_inj.1 hk
    have : c.toNat = 48 ∨ c.toNat = 49 ∨ c.toNat = 50 ∨ c.toNat = 51 ∨ c.toNat = 52 ∨ c.toNat = 53 ∨ c.toNat = 54 ∨ c.toNat = 55 ∨ c.toNat = 56 ∨ c.toNat = 57 := by omega
    rcases this with h | h | h | h | h | h | h | h | h | h
    · exact .inl (e 48 h)
    · exact .inr (.inl (e 49 h))
    · exact .inr (.inr (.inl (e 50 h)))
    · exact .inr (.inr (.inr (.inl (e 51 h))))
    · exact .inr (.inr (.inr (.inr (.inl (e 52 h)))))
    · exact .inr (.inr (.inr (.inr (.inr (.inl (e 53 h))))))
    · exact .inr (.inr (.inr (.inr (.inr (.inr (.inl (e 54 h)))))))
    · exact .inr (.inr (.inr (.inr (.inr (.inr (.inr (.inl (e 55 h))))))))
    · exact .inr (.inr (.inr (.inr (.inr (.inr (.inr (.inr (.inl (e 56 h)))))))))
    · exact .inr (.inr (.inr (.inr (.inr (.inr (.inr (.inr (.inr (e 57 h)))))))))
theorem dropW_nil {p : UInt8 → Bool} : ∀ {l : List UInt8}, l.dropWhile p = [] ↔ ∀ x ∈ l, p x = true
  | [] => by simp
  | c :: r => by
    rw [List.dropWhile_cons]
    split
    · rename_i h
      rw [dropW_nil]
      simp [h]
    · rename_i h
      constructor
      · intro e; cases e
      · intro e; exact absurd (e c (List.mem_cons_self ..)) h
theorem trim_nil (s : List UInt8) : Lib.trimS s tenDigits = [] ↔ ∀ c ∈ s, Dig c := by
  unfold Lib.trimS Lib.trimLeftS Lib.trimRightS
  rw [dropW_nil]
  constructor
  · intro h
    have h2 : ∀ c ∈ s.reverse.dropWhile (tenDigits.contains ·), Dig c := fun c hc => (ten_contains c).1 (h c (List.mem_reverse.2 hc))
    have h3 : s.reverse.dropWhile (tenDigits.contains ·) = [] := by
      cases hd : s.reverse.dropWhile (tenDigits.contains ·) with
      | nil => rfl
      | cons c r =>
        exfalso
        have h4 : tenDigits.contains c = true := (ten_contains c).2 (h2 c (by rw [hd]; exact List.mem_cons_self ..))
        have h5 := List.head?_dropWhile_not (tenDigits.contains ·) s.reverse
        rw [hd] at h5
        simp only [List.head?_cons] at h5
        rw [h4] at h5
        cases h5
    intro c hc
    exact (ten_contains c).1 (dropW_nil.1 h3 c (List.mem_reverse.2 hc))
  · intro h c hc
    have h1 := List.mem_reverse.1 hc
    exact (ten_contains c).2 (h c (List.mem_reverse.1 ((List.dropWhile_sublist _).subset h1)))
theorem strTrim_c {w : World} {s : List UInt8} (hl : s.length ≤ 9223372036854775807) :
    Gives Tryz.prog 155 [strV s, strV tenDigits] w fun v' w' => v' = strV (Lib.trimS s tenDigits) ∧ Ext w w' :=
  Calls.mono (Any.strings_Trim_laid Tryz.lays160 (by kernel_rfl) ⟨s.toArray⟩ ⟨tenDigits.toArray⟩ w (by rw [size_str]; exact hl) (by decide) (ascii_of_all (by decide))) fun e w' ⟨he, hw⟩ => ⟨_, he, rfl, .of_below hw⟩
theorem isDigits_c {w : World} {s : List UInt8} (hl : s.length ≤ 9223372036854775807) :
    Gives Tryz.prog 113 [strV s] w fun v' w' => v' = .bool (tst (DecL s)) ∧ Ext w w' := by
  have hbd : ¬ (s = [] ∨ (s.head? = some 48 ∧ 1 < s.length)) → (DecL s ↔ ∀ c ∈ s, Dig c) := by
    intro h
    refine ⟨fun h2 => h2.2.1, fun h2 => ⟨fun e => h (.inl e), h2, fun h3 => ?_⟩⟩
    have h4 : ¬ 1 < s.length := fun h4 => h (.inr ⟨h3, h4⟩)
    have h5 : s ≠ [] := fun e => h (.inl e)
    have := List.length_pos_iff.2 h5
    omega
  refine gives_of Tryz.func113 rfl rfl rfl ?_
  repeat (first | refine wp_seq_region ?_ | refine wp_seq_seq ?_ | refine wp_region ?_ | refine r_move (by conv => (lhs; whnf)) ?_ | refine r_assign (by conv => (lhs; whnf)) ?_ | refine r_nil ?_)
  refine r_eqlS (b := []) rfl rfl ?_
  repeat (first | refine r_move (by conv => (lhs; whnf)) ?_)
  refine r_mid [(5, 14)] (fun ρ w' => ρ 14 = .bool (tst (s = [] ∨ (s.head? = some 48 ∧ 1 < s.length))) ∧ w' = w) ?_ ?_
  · refine r_guard_split rfl rfl ?_ ?_ <;> intro hnil
    · repeat (first | refine r_nil ?_ | refine q_then ?_ | refine r_guard_skip rfl rfl rfl ?_ | refine r_guard_undef rfl rfl ?_ | refine r_pick_true rfl (by conv => (lhs; whnf)) ?_)
      exact ⟨by (repeat (first | refine agree_upd rfl ?_ | exact agree_over | refine agree_sub rfl ?_ | exact agree_refl | refine agree_base rfl ?_ | refine agree_base' rfl ?_)), by rw [tst_true (Or.inl hnil)]; rfl, rfl⟩
    · obtain ⟨c, hc⟩ : ∃ c, s[0]? = some c := ⟨s[0]'(List.length_pos_iff.2 hnil), List.getElem?_eq_getElem _⟩
      have hc48 : (c.toNat : Int) = 48 ↔ s.head? = some 48 := by
        rw [List.head?_eq_getElem?, hc]
        constructor
        · intro h
          congr 1
          apply UInt8.toNat_inj.1
          show c.toNat = 48
          omega
        · intro h
          have := Option.some.inj h
          subst this
          rfl
      repeat (first | refine r_indexS 0 rfl rfl rfl hc ?_ | refine r_move (by conv => (lhs; whnf)) ?_ | refine r_guard_run rfl rfl ?_ | refine r_eql rfl rfl ?_)
      refine r_guard_split rfl rfl ?_ ?_ <;> intro h48
      · repeat (first | refine r_lenS rfl ?_ | refine r_move (by conv => (lhs; whnf)) ?_ | refine r_nil ?_ | refine q_then ?_ | refine r_guard_run rfl rfl ?_ | refine r_pick_true rfl (by conv => (lhs; whnf)) ?_ | refine r_pick_false rfl (by conv => (lhs; whnf)) ?_ | refine r_gtr rfl rfl ?_)
        refine ⟨by (repeat (first | refine agree_upd rfl ?_ | exact agree_over | refine agree_sub rfl ?_ | exact agree_refl | refine agree_base rfl ?_ | refine agree_base' rfl ?_)), congrArg Value.bool (tst_congr ?_), rfl⟩
        exact ⟨fun h => Or.inr ⟨hc48.1 h48, by omega⟩, fun h => h.elim (fun h => absurd h hnil) fun h => by omega⟩
      · repeat (first | refine r_nil ?_ | refine q_then ?_ | refine r_guard_run rfl rfl ?_ | refine r_guard_skip rfl rfl rfl ?_ | refine r_pick_false rfl (by conv => (lhs; whnf)) ?_)
        refine ⟨by (repeat (first | refine agree_upd rfl ?_ | exact agree_over | refine agree_sub rfl ?_ | exact agree_refl | refine agree_base rfl ?_ | refine agree_base' rfl ?_)), ?_, rfl⟩
        rw [tst_false (show ¬ (s = [] ∨ (s.head? = some 48 ∧ 1 < s.length)) from fun h => h.elim hnil fun h => h48 (hc48.2 h.1))]
        rfl
  rintro u1 w1 ⟨h14, rfl⟩
  refine wp_learn 14 h14 ?_
  clear h14
  skip
  try refine wp_seq_cond ?_
  refine wp_cond_dec rfl ?_ ?_ <;> intro hbad
  · repeat (first | refine wp_seq_region ?_ | refine wp_region ?_ | refine r_assign (by conv => (lhs; whnf)) ?_ | refine r_nil ?_ | refine q_then ?_ | refine wp_ret ?_ | refine q_then_ret ?_)
    refine end_tmp rfl (by conv => (lhs; whnf)) ⟨?_, .refl⟩
    rw [tst_false]
    rintro ⟨h1, h2, h3⟩
    rcases hbad with h | h
    · exact h1 h
    · have := h3 h.1; omega
  · repeat (first | refine wp_seq_region ?_ | refine wp_region ?_ | refine r_move (by conv => (lhs; whnf)) ?_ | refine wp_skip ?_)
    refine r_call (strTrim_c hl) rfl ?_
    rintro v2 w2 ⟨rfl, k2⟩
    refine r_eqlS (b := []) rfl rfl ?_
    repeat (first | refine r_assign (by conv => (lhs; whnf)) ?_ | refine r_nil ?_ | refine q_then ?_ | refine wp_ret ?_)
    refine end_tmp rfl (by conv => (lhs; whnf)) ⟨?_, k2⟩
    rw [tst_congr (trim_nil s), ← tst_congr (hbd hbad)]

theorem decFrom_digs : ∀ {l : List UInt8} {a : Nat}, (∀ c ∈ l, Dig c) → Lib.decFrom a l = some (l.foldl (fun a c => 10 * a + (c.toNat - 48)) a)
  | [], a, _ => rfl
  | c :: r, a, h => by
    have h1 := h c (List.mem_cons_self ..)
    unfold Dig at h1
    have h2 := decFrom_digs (l := r) (a := a * 10 + (c.toNat - 48)) fun x hx => h x (List.mem_cons_of_mem _ hx)
    unfold Lib.decFrom Lib.digitVal
    rw [if_pos h1]
    simp only [List.foldl_cons]
    rw [h2, Nat.mul_comm a]
theorem atoi_digs {l : List UInt8} (hne : l ≠ []) (h : ∀ c ∈ l, Dig c) : Lib.atoi l = some (digV l : Int) := by
  cases l with
  | nil => exact absurd rfl hne
  | cons c r =>
    have h1 := h c (List.mem_cons_self ..)
    unfold Dig at h1
    have e45 : (c == 45) = false := by
      rw [beq_eq_false_iff_ne]
      rintro rfl
      exact absurd h1.1 (by decide)
    have e43 : (c == 43) = false := by
      rw [beq_eq_false_iff_ne]
      rintro rfl
      exact absurd h1.1 (by decide)
    have e : Lib.atoi (c :: r) = if (c == 45) = true then (Lib.decNat r).map fun (m : Nat) => -(m : Int) else if (c == 43) = true then (Lib.decNat r).map fun (m : Nat) => (m : Int) else (Lib.decNat (c :: r)).map fun (m : Nat) => (m : Int) := rfl
    have e2 : Lib.decNat (c :: r) = Lib.decFrom 0 (c :: r) := rfl
    rw [e, e45, e43, e2, decFrom_digs h]
    rfl
theorem ext_bytes {w : World} {T : TypeId} {t : ByteArray} : Ext w (Lib.bytesWorld w T t) := .of_below (Lib.bytesWorld_below w T t)
theorem atoi_c {w : World} {l : List UInt8} (hne : l ≠ []) (h : ∀ c ∈ l, Dig c) (hl : l.length ≤ 18) :
    Gives Tryz.prog 156 [strV l] w fun v' w' => v' = .tuple #[.int .i64 (digV l : Int), .nilIface] ∧ Ext w w' :=
  Calls.mono (Tryz.strconv_Atoi ⟨l.toArray⟩ (digV l : Int) (by rw [size_str]; exact hl) (atoi_digs hne h) w) fun e w' ⟨he, t, hw⟩ => ⟨_, he, rfl, hw ▸ ext_bytes⟩
end Go.Proofs.YtpmnjjmngogkkaaGreatDoor
end

section
/- The program reads integers. -/
set_option linter.unusedVariables false
set_option linter.unusedSimpArgs false
namespace Go.Proofs.YtpmnjjmngogkkaaGreatDoor
open Go Go.RowKit

theorem parsed_c {S : Nat → Prop} {w : World} {s : List UInt8} (hS : Up S w) (hd : ∀ c ∈ s, Dig c) (hl : s.length ≤ 1000000) :
    Gives Tryz.prog 114 [strV s] w fun v' w' => Ext w w' ∧ NatV S 127 .u32 w' v' (digV s) := by
  refine gives_of Tryz.func114 rfl rfl rfl ?_
  repeat (first | refine wp_seq_region ?_ | refine wp_region ?_ | refine r_assign (by conv => (lhs; whnf)) ?_ | refine r_nil ?_ | refine q_then ?_)
  try refine wp_seq_block ?_
  refine wp_for ((0, 0) :: [(0, 0), (3, 28)]) (fun k ρ w' => ∃ (L : List Nat) (v : Value), k ≤ s.length ∧ ρ 0 = strV (s.take k) ∧ ρ 3 = v ∧ (0 < k → 9 * L.length + k = s.length) ∧ L.length ≤ s.length ∧ digV (s.drop k) = nval L ∧ Digs L ∧ Ext w w' ∧ Own w.heap.size 127 1 w' v L.length (L.map fun d : Nat => .int .u32 d)) s.length ?_ ?_
  · exact ⟨[], _, Nat.le_refl _, by rw [List.take_of_length_le (Nat.le_refl _)]; rfl, rfl, by simp, by simp, by rw [List.drop_of_length_le (Nat.le_refl _)]; rfl, digs_nil, .refl, own_nil⟩
  rintro k u w1 ⟨L, v, hk, h0, h3, hcnt, hLl, hval, hLd, k1, ho⟩
  refine wp_learn 0 h0 (wp_learn 3 h3 ?_)
  clear h0 h3
  have htk : (s.take k).length = k := by rw [List.length_take]; omega
  repeat (first | refine r_lenS rfl ?_ | refine wp_seq_region ?_ | refine wp_seq_seq ?_ | refine wp_region ?_ | refine r_move (by conv => (lhs; whnf)) ?_ | refine r_nil ?_ | refine q_then ?_ | refine r_gtr rfl rfl ?_)
  try refine wp_seq_cond ?_
  refine wp_cond_dec rfl ?_ ?_ <;> intro hc
  · obtain ⟨cut, hcut⟩ : ∃ cut, cut = k - 9 := ⟨_, rfl⟩
    have hmax : max (0 : Int) (((s.take k).length : Int) - 9) = (cut : Int) := by omega
    obtain ⟨ch, hch⟩ : ∃ ch, ch = (s.take k).drop cut := ⟨_, rfl⟩
    have hchl : ch.length = k - cut := by rw [hch, List.length_drop, htk]
    have hchd : ∀ c ∈ ch, Dig c := fun c hc => hd c (List.mem_of_mem_take (List.mem_of_mem_drop (hch ▸ hc)))
    have hchne : ch ≠ [] := by intro e; rw [e] at hchl; simp at hchl; omega
    have hdv := digV_lt hchd
    have hdv9 : digV ch < 1000000000 := by
      have : 10 ^ ch.length ≤ 10 ^ 9 := Nat.pow_le_pow_right (by omega) (by omega)
      omega
    have hsd : s.drop cut = ch ++ s.drop k := by
      rw [hch]
      conv => lhs; rw [← List.take_append_drop k s]
      rw [List.drop_append_of_le_length (by omega)]
    repeat (first | refine r_lenS rfl ?_ | refine wp_seq_region ?_ | refine wp_region ?_ | refine r_move (by conv => (lhs; whnf)) ?_ | refine r_assign (by conv => (lhs; whnf)) ?_ | refine r_nil ?_ | refine q_then ?_ | refine wp_block_seq ?_ | refine wp_skip ?_ | refine r_subI rfl rfl (by omega) (by omega) ?_ | refine r_max rfl rfl ?_)
    rw [hmax]
    repeat (first | refine r_sliceS_low cut rfl rfl rfl (by omega) ?_)
    rw [← hch]
    refine r_call (atoi_c hchne hchd (by omega)) rfl ?_
    rintro v2 w2 ⟨rfl, k2⟩
    repeat (first | refine wp_seq_region ?_ | refine wp_region ?_ | refine r_move (by conv => (lhs; whnf)) ?_ | refine r_assign (by conv => (lhs; whnf)) ?_ | refine r_nil ?_ | refine r_extract rfl rfl ?_ | refine r_conv rfl (wrap_u32 (by omega) (by omega)) ?_)
    refine r_lit1 (by conv => (lhs; whnf)) rfl ?_
    intro w3 g k3 hg hgs
    refine r_append1 (by conv => (lhs; whnf)) (own_to (own_to ho k2) k3) rfl hg (by omega) rfl (fun u hu => by rw [List.mem_singleton.1 hu]; rfl) (by unfold maxLen; omega) (by omega) (by have := k1.size; have := k2.size; have := k3.size; omega) ?_
    intro v4 w4 ho4 k4
    have hlen : (L ++ [digV ch]).length = L.length + 1 := by rw [List.length_append]; rfl
    repeat (first | refine r_sliceS_high cut rfl rfl rfl (by omega) ?_ | refine wp_region ?_ | refine r_move (by conv => (lhs; whnf)) ?_ | refine r_assign (by conv => (lhs; whnf)) ?_ | refine r_nil ?_ | refine q_then ?_ | refine q_block ?_)
    refine ⟨by (repeat (first | refine agree_upd rfl ?_ | exact agree_over | refine agree_sub rfl ?_ | exact agree_refl | refine agree_base rfl ?_ | refine agree_base' rfl ?_)), cut, by omega, L ++ [digV ch], v4, by omega, ?_, rfl, by rw [hlen]; omega, by rw [hlen]; omega, ?_, hLd.append (Digs.cons hdv9 digs_nil), ?_, by simpa using ho4⟩
    · show strV ((s.take k).take cut) = _
      rw [List.take_take, Nat.min_eq_left (by omega)]
    · rw [hsd, digV_append, hval, nval_snoc, List.length_drop, show s.length - k = 9 * L.length by have := hcnt (by omega); omega, ← pow_nine, Nat.mul_comm (digV ch)]
      omega
    · exact Keeps.later ((k1.trans k2).trans k3) k4 fun i hi _ e => by have := (ho.lt i e.symm).1; omega
  · obtain rfl : k = 0 := by omega
    rw [List.drop_zero] at hval
    repeat (first | refine wp_seq_region ?_ | refine wp_region ?_ | refine r_move (by conv => (lhs; whnf)) ?_ | refine wp_exit ?_)
    refine r_call (trim_c (S := S) (v := v) (l := L) (Row.of_own ho hS) hLd) rfl ?_
    rintro v2 w2 ⟨rfl, h2⟩
    repeat (first | refine r_assign (by conv => (lhs; whnf)) ?_ | refine r_nil ?_ | refine q_then ?_ | refine wp_ret ?_)
    refine end_tmp rfl (by conv => (lhs; whnf)) ⟨k1, ?_⟩
    rw [hval]
    exact h2

theorem has_neg (s : List UInt8) : Lib.hasPrefix s [45] = tst (NegS s) := by
  unfold Lib.hasPrefix NegS
  cases s with
  | nil => rw [tst_false (by simp)]; rfl
  | cons c r =>
    by_cases h : c = 45
    · subst h
      rw [tst_true (by rfl)]
      simp [List.isPrefixOf]
    · rw [tst_false (by simpa using h)]
      simp [List.isPrefixOf]
      exact fun e => h e.symm
theorem trim_neg (s : List UInt8) : Lib.trimPrefix s [45] = Dgs s := by
  unfold Lib.trimPrefix Dgs
  rw [has_neg]
  by_cases h : NegS s
  · rw [tst_true h, if_pos h]; rfl
  · rw [tst_false h, if_neg h]; rfl
theorem cutPrefix_c {w : World} {s : List UInt8} :
    Gives Tryz.prog 112 [strV s, strV [45]] w fun v' w' => v' = .tuple #[strV (Dgs s), .bool (tst (NegS s))] ∧ w' = w :=
  Calls.mono (Tryz.strings_CutPrefix ⟨s.toArray⟩ ⟨[45].toArray⟩ w) fun e w' ⟨he, hw⟩ => ⟨_, he, by
    show Value.tuple #[.string ⟨(Lib.trimPrefix s [45]).toArray⟩, .bool (Lib.hasPrefix s [45])] = _
    rw [trim_neg, has_neg], hw⟩

set_option maxHeartbeats 1000000 in
theorem iparse_c {S : Nat → Prop} {w : World} {s : List UInt8} (hS : Up S w) (hl : s.length ≤ 140737488351232) :
    Gives Tryz.prog 54 [strV s] w fun v' w' => Ext w w' ∧
      ((35000 < s.length ∧ v' = .tuple #[.agg #[.bool false, .slice none 0 0], .int .i64 2]) ∨ (s.length ≤ 35000 ∧ (∀ z, s ≠ Lib.itoa z) ∧ v' = .tuple #[.agg #[.bool false, .slice none 0 0], .int .i64 10]) ∨ (s.length ≤ 35000 ∧ ∃ z, s = Lib.itoa z ∧ ITried S w' v' z)) := by
  have hDl := dgs_le s
  refine gives_of Tryz.func54 rfl rfl rfl ?_
  repeat (first | refine wp_seq_region ?_ | refine wp_region ?_)
  refine r_alloc (cs := [.bool false, .slice none 0 0]) rfl ?_
  intro w1 g k1 hg hgs
  repeat (first | refine r_lenS rfl ?_ | refine wp_seq_region ?_ | refine wp_seq_seq ?_ | refine wp_region ?_ | refine r_move (by conv => (lhs; whnf)) ?_ | refine r_assign (by conv => (lhs; whnf)) ?_ | refine r_nil ?_ | refine q_then ?_ | refine r_gtr rfl rfl ?_)
  try refine wp_seq_cond ?_
  refine wp_cond_dec rfl ?_ ?_ <;> intro hlong
  · repeat (first | refine wp_seq_region ?_ | refine wp_region ?_)
    refine r_build0 (cs := [.bool false, .slice none 0 0]) rfl ?_
    refine r_store2 rfl (by conv => (lhs; whnf)) hg rfl rfl ?_
    intro w2 k2 hg2
    repeat (first | refine r_assign (by conv => (lhs; whnf)) ?_ | refine r_nil ?_ | refine q_then ?_ | refine wp_ret ?_ | refine q_then_ret ?_)
    exact end2 rfl (resV_agg (by conv => (lhs; whnf)) hg2 rfl) (resV_tmp (by conv => (lhs; whnf))) ⟨k1.past k2 hgs, .inl ⟨by omega, rfl⟩⟩
  · repeat (first | refine wp_seq_region ?_ | refine wp_region ?_ | refine r_move (by conv => (lhs; whnf)) ?_ | refine wp_skip ?_)
    refine r_call cutPrefix_c rfl ?_
    rintro v2 w2 ⟨rfl, rfl⟩
    repeat (first | refine wp_seq_region ?_ | refine wp_seq_seq ?_ | refine wp_region ?_ | refine r_move (by conv => (lhs; whnf)) ?_ | refine r_assign (by conv => (lhs; whnf)) ?_ | refine r_nil ?_ | refine r_extract rfl rfl ?_)
    refine r_call (isDigits_c (s := Dgs s) (by omega)) rfl ?_
    rintro v3 w3 ⟨rfl, k3⟩
    repeat (first | refine r_move (by conv => (lhs; whnf)) ?_ | refine r_notB rfl ?_)
    have hbad : (¬ DecL (Dgs s) ∨ (NegS s ∧ Dgs s = [48])) ↔ ∀ z, s ≠ Lib.itoa z := by
      constructor
      · rintro (h | ⟨h1, h2⟩) z hz
        · exact h ((num_iff s).1 ⟨z, hz⟩).1
        · exact ((num_iff s).1 ⟨z, hz⟩).2 h1 (by rw [h2]; rfl)
      · intro h
        by_cases hd : DecL (Dgs s)
        · right
          have h2 : ¬ (NegS s → (Dgs s).head? ≠ some 48) := fun h2 => h _ (num_val hd h2)
          by_cases hn : NegS s
          · refine ⟨hn, ?_⟩
            have h3 : (Dgs s).head? = some 48 := Classical.byContradiction fun h3 => h2 fun _ => h3
            have h4 := hd.2.2 h3
            match hds : Dgs s, h3, h4 with
            | [c], h3, _ => simp at h3; rw [h3]
          · exact absurd (fun h3 => absurd h3 hn) h2
        · exact .inl hd
    refine r_mid [(18, 24)] (fun ρ w' => ρ 24 = .bool (tst (∀ z, s ≠ Lib.itoa z)) ∧ w' = w3) ?_ ?_
    · refine r_guard_split rfl rfl ?_ ?_ <;> intro hnd
      · repeat (first | refine r_nil ?_ | refine q_then ?_ | refine r_guard_skip rfl rfl rfl ?_ | refine r_guard_undef rfl rfl ?_ | refine r_pick_true rfl (by conv => (lhs; whnf)) ?_)
        exact ⟨by (repeat (first | refine agree_upd rfl ?_ | exact agree_over | refine agree_sub rfl ?_ | exact agree_refl | refine agree_base rfl ?_ | refine agree_base' rfl ?_)), by rw [tst_true (hbad.1 (Or.inl hnd))]; rfl, rfl⟩
      · repeat (first | refine r_move (by conv => (lhs; whnf)) ?_ | refine r_guard_run rfl rfl ?_)
        refine r_guard_split rfl rfl ?_ ?_ <;> intro hn
        · repeat (first | refine r_move (by conv => (lhs; whnf)) ?_ | refine r_guard_run rfl rfl ?_)
          refine r_eqlS (b := [48]) rfl rfl ?_
          repeat (first | refine r_nil ?_ | refine q_then ?_ | refine r_guard_run rfl rfl ?_ | refine r_pick_true rfl (by conv => (lhs; whnf)) ?_ | refine r_pick_false rfl (by conv => (lhs; whnf)) ?_)
          refine ⟨by (repeat (first | refine agree_upd rfl ?_ | exact agree_over | refine agree_sub rfl ?_ | exact agree_refl | refine agree_base rfl ?_ | refine agree_base' rfl ?_)), congrArg Value.bool (tst_congr ?_), rfl⟩
          rw [← hbad]
          exact ⟨fun h => Or.inr ⟨hn, h⟩, fun h => h.elim (fun h => absurd h hnd) fun h => h.2⟩
        · repeat (first | refine r_nil ?_ | refine q_then ?_ | refine r_guard_run rfl rfl ?_ | refine r_guard_skip rfl rfl rfl ?_ | refine r_pick_false rfl (by conv => (lhs; whnf)) ?_)
          refine ⟨by (repeat (first | refine agree_upd rfl ?_ | exact agree_over | refine agree_sub rfl ?_ | exact agree_refl | refine agree_base rfl ?_ | refine agree_base' rfl ?_)), ?_, rfl⟩
          rw [tst_false (show ¬ ∀ z, s ≠ Lib.itoa z from fun h => (hbad.2 h).elim hnd fun h => hn h.1)]
          rfl
    rintro u4 w4 ⟨h24, rfl⟩
    refine wp_learn 24 h24 ?_
    clear h24
    have hg4 := hg.to k3
    skip
    try refine wp_seq_cond ?_
    refine wp_cond_dec rfl ?_ ?_ <;> intro hb
    · repeat (first | refine wp_seq_region ?_ | refine wp_region ?_)
      refine r_build0 (cs := [.bool false, .slice none 0 0]) rfl ?_
      refine r_store2 rfl (by conv => (lhs; whnf)) hg4 rfl rfl ?_
      intro w5 k5 hg5
      repeat (first | refine r_assign (by conv => (lhs; whnf)) ?_ | refine r_nil ?_ | refine q_then ?_ | refine wp_ret ?_ | refine q_then_ret ?_)
      exact end2 rfl (resV_agg (by conv => (lhs; whnf)) hg5 rfl) (resV_tmp (by conv => (lhs; whnf))) ⟨(k1.trans k3).past k5 hgs, .inr (.inl ⟨by omega, hb, rfl⟩)⟩
    · have hgood : DecL (Dgs s) ∧ (NegS s → (Dgs s).head? ≠ some 48) := by
        refine (num_iff s).1 (Classical.byContradiction fun h => hb fun z hz => h ⟨z, hz⟩)
      have hS4 := hS.to (k1.trans k3)
      repeat (first | refine wp_seq_region ?_ | refine wp_region ?_ | refine r_move (by conv => (lhs; whnf)) ?_ | refine wp_skip ?_)
      refine r_call (parsed_c hS4 hgood.1.2.1 (by omega)) rfl ?_
      rintro v5 w5 ⟨k5, h5⟩
      refine r_call (signed_c (p := NegS s) (n := digV (Dgs s)) (numV s) h5 ?_ ?_) rfl ?_
      · unfold numV; split <;> omega
      · unfold numV
        split
        · rename_i h; exact ⟨fun h2 => ⟨h, by omega⟩, fun h2 => by omega⟩
        · rename_i h; exact ⟨fun h2 => by omega, fun h2 => absurd h2.1 h⟩
      rintro v6 w6 ⟨k6, h6⟩
      repeat (first | refine r_func ?_)
      refine r_call (iattempt_c ((hS4.to k5).to k6) h6) rfl ?_
      rintro v7 w7 ⟨k7, r, e, rfl, hor⟩
      repeat (first | refine r_extract rfl rfl ?_)
      have k' := (((k1.trans k3).trans k5).trans k6).trans k7
      have hg7 := ((hg4.to k5).to k6).to k7
      rcases hor with ⟨hf, rfl, m, rfl, hm⟩ | ⟨hf, rfl, m, rfl, hm⟩
      · refine r_store2 rfl rfl hg7 rfl hm.one ?_
        intro w8 k8 hg8
        repeat (first | refine r_assign (by conv => (lhs; whnf)) ?_ | refine r_nil ?_ | refine q_then ?_ | refine wp_ret ?_)
        exact end2 rfl (resV_agg (by conv => (lhs; whnf)) hg8 rfl) (resV_tmp (by conv => (lhs; whnf))) ⟨Keeps.past k' k8 hgs, .inr (.inr ⟨by omega, _, num_val hgood.1 hgood.2, _, _, rfl, .inl ⟨hf, rfl, m, rfl, hm.wrT k8 hg7 (by decide)⟩⟩)⟩
      · refine r_store2 rfl rfl hg7 rfl hm.one ?_
        intro w8 k8 hg8
        repeat (first | refine r_assign (by conv => (lhs; whnf)) ?_ | refine r_nil ?_ | refine q_then ?_ | refine wp_ret ?_)
        exact end2 rfl (resV_agg (by conv => (lhs; whnf)) hg8 rfl) (resV_tmp (by conv => (lhs; whnf))) ⟨Keeps.past k' k8 hgs, .inr (.inr ⟨by omega, _, num_val hgood.1 hgood.2, _, _, rfl, .inr ⟨hf, rfl, m, rfl, hm.wrT k8 hg7 (by decide)⟩⟩)⟩
end Go.Proofs.YtpmnjjmngogkkaaGreatDoor
end

section
/- The statements' readings of integers with both. -/
set_option linter.unusedVariables false
set_option linter.unusedSimpArgs false
namespace Go.Proofs.YtpmnjjmngogkkaaGreatDoor
open Go Go.RowKit

/-- A number of few digits. -/
theorem len_small {z : Int} {k : Nat} (h : (Lib.itoa z).length ≤ k) : z.natAbs < 10 ^ k := by
  have h1 := Lib.lt_pow_nDigits z.natAbs
  have h2 : Lib.nDigits z.natAbs ≤ k := by
    have := congrArg List.length (itoa_rev z)
    rw [List.length_reverse, List.length_append, low_length] at this
    omega
  exact Nat.lt_of_lt_of_le h1 (Nat.pow_le_pow_right (by omega) h2)
theorem zl_small {z : Int} {k j : Nat} (h : (Lib.itoa z).length ≤ k) (hj : k ≤ 9 * j) : zl z ≤ j := by
  refine dl_le ?_
  rw [pow_nine]
  exact Nat.lt_of_lt_of_le (len_small h) (Nat.pow_le_pow_right (by omega) hj)
theorem big_ge {k j : Nat} (hk : k ≤ 9 * j) (hj : j ≤ 3344) : 10 ^ k ≤ Big :=
  Nat.le_trans (Nat.pow_le_pow_right (by omega) hk) (Nat.le_trans (Nat.le_of_eq (pow_nine j).symm) (Nat.le_trans (pow_mono_b hj) big_low))

theorem fits_small {z : Int} {k j : Nat} (h : (Lib.itoa z).length ≤ k) (hk : k ≤ 9 * j) (hj : j ≤ 3344) : z.natAbs < Big := Nat.lt_of_lt_of_le (len_small h) (big_ge hk hj)
theorem one_l {S : Nat → Prop} {w : World} {s : List UInt8} {most : Nat} (hS : Up S w) (hl : s.length ≤ 140737488351232) (hm1 : 1 ≤ most) (hm : most ≤ 30000) :
    Gives Tryz.prog 23 [strV s, .int .i64 (most : Int)] w fun v' w' => ∃ va vz z, v' = .tuple #[va, vz] ∧ Ext w w' ∧ (Lib.itoa z).length ≤ most ∧ IntV S 127 .u32 w' va z ∧ ZV S w' vz z := by
  refine gives_of Tryz.func23 rfl rfl rfl ?_
  repeat (first | refine wp_seq_region ?_ | refine wp_region ?_)
  refine r_alloc (cs := [.bool false, .slice none 0 0]) rfl ?_
  intro w1 g k1 hg hgs
  refine r_alloc (cs := [.bool false, .slice none 0 0]) rfl ?_
  intro w2 g2 k2 hg2 hgs2
  have hgl := hg.lt
  replace hg := hg.to k2
  have hk1 := k1.size
  have k := k1.trans k2
  repeat (first | refine wp_seq_region ?_ | refine wp_region ?_ | refine r_move (by conv => (lhs; whnf)) ?_ | refine r_nil ?_)
  refine r_call (zparse_c (hS.to k) hl) rfl ?_
  rintro v3 w3 ⟨k3, hp⟩
  replace hg := hg.to k3
  replace hg2 := hg2.to k3
  replace k := k.trans k3
  replace hS := hS.to k
  -- what stands in the variable behind the test
  obtain ⟨b, m0, vb, rfl, h1, hok⟩ : ∃ b m0 vb, v3 = .tuple #[.agg #[b, m0], .bool vb] ∧ (b.oneCell' = true ∧ m0.oneCell' = true) ∧ ((vb = true ∧ ∃ z, s = Lib.itoa z ∧ ZV S w3 (.agg #[b, m0]) z) ∨ vb = false) := by
    rcases hp with ⟨z, vz, hz, rfl, m, rfl, hm⟩ | ⟨_, rfl⟩
    · exact ⟨_, _, _, rfl, ⟨rfl, hm.one⟩, .inl ⟨rfl, z, hz, m, rfl, hm.mono fun _ _ h => h⟩⟩
    · exact ⟨_, _, _, rfl, ⟨rfl, rfl⟩, .inr rfl⟩
  clear hp
  repeat (first | refine r_move (by conv => (lhs; whnf)) ?_ | refine r_extract rfl rfl ?_)
  refine r_alloc (cs := [.bool false, .slice none 0 0]) rfl ?_
  intro w4 g4 k4 hg4 hgs4
  have hg2l := hg2.lt
  have hks := k.size
  refine r_store2 rfl rfl hg4 h1.1 h1.2 ?_
  intro w5 k5 hg5
  replace hg := (hg.to k4).wr k5 (by omega)
  replace hg2 := (hg2.to k4).wr k5 (by omega)
  replace hS : Up S w5 := fun i hi => hS i (by have := k4.size; have := k5.size; omega)
  replace k : Ext w w5 := (k.trans k4).past k5 (by omega)
  have hok5 : (vb = true ∧ ∃ z, s = Lib.itoa z ∧ ZV S w5 (.agg #[b, m0]) z) ∨ vb = false := by
    rcases hok with ⟨h, z, hz, m, hm1, hm2⟩ | h
    · exact .inl ⟨h, z, hz, m, hm1, (hm2.to k4).wrT k5 hg4 (by decide)⟩
    · exact .inr h
  clear hok
  repeat (first | refine wp_seq_region ?_ | refine wp_seq_seq ?_ | refine wp_region ?_ | refine r_move (by conv => (lhs; whnf)) ?_ | refine r_assign (by conv => (lhs; whnf)) ?_ | refine r_nil ?_ | refine r_not rfl ?_)
  refine r_mid [(17, 22)] (fun ρ w' => ρ 22 = .bool (tst (vb = false ∨ most < s.length)) ∧ w' = w5) ?_ ?_
  · cases vb
    · repeat (first | refine r_nil ?_ | refine q_then ?_ | refine r_guard_skip rfl rfl rfl ?_ | refine r_pick_true rfl (by conv => (lhs; whnf)) ?_)
      exact ⟨by (repeat (first | refine agree_upd rfl ?_ | exact agree_over | refine agree_sub rfl ?_ | exact agree_refl | refine agree_base rfl ?_ | refine agree_base' rfl ?_)), by rw [tst_true (Or.inl rfl)]; rfl, rfl⟩
    · repeat (first | refine r_lenS rfl ?_ | refine r_move (by conv => (lhs; whnf)) ?_ | refine r_nil ?_ | refine q_then ?_ | refine r_guard_run rfl rfl ?_ | refine r_pick_false rfl (by conv => (lhs; whnf)) ?_ | refine r_gtr rfl rfl ?_)
      refine ⟨by (repeat (first | refine agree_upd rfl ?_ | exact agree_over | refine agree_sub rfl ?_ | exact agree_refl | refine agree_base rfl ?_ | refine agree_base' rfl ?_)), congrArg Value.bool (tst_congr ?_), rfl⟩
      exact ⟨fun h => Or.inr (by omega), fun h => h.elim (fun h => by cases h) fun h => by omega⟩
  rintro u1 w6 ⟨h22, rfl⟩
  refine wp_learn 22 h22 ?_
  clear h22
  skip
  first | refine wp_seq_cond ?_ | refine wp_thenB ?_ | refine wp_thenBB ?_ | skip
  refine wp_join [(23, 23)] (fun ρ w' => Ext w w' ∧ Blk w' g 26 [.bool false, .slice none 0 0] ∧ Blk w' g2 31 [.bool false, .slice none 0 0] ∧ ∃ z b m, Blk w' g4 31 [b, m] ∧ ZV S w' (.agg #[b, m]) z ∧ (Lib.itoa z).length ≤ most ∧ w6.heap.size ≤ w'.heap.size) rfl ?_ ?_ ?_
  · intro _
    repeat (first | refine wp_region ?_)
    refine r_call (zof_c (z := 1) hS (by decide) (by decide)) rfl ?_
    rintro v7 w7 ⟨k7, m7, rfl, h7⟩
    have hg7 := hg5.to k7
    have hk5 := k.size
    refine r_store2 rfl rfl hg7 rfl h7.one ?_
    intro w8 k8 hg8
    repeat (first | refine r_nil ?_ | refine q_then ?_)
    refine ⟨by (repeat (first | refine agree_upd rfl ?_ | exact agree_over | refine agree_sub rfl ?_ | exact agree_refl | refine agree_base rfl ?_ | refine agree_base' rfl ?_)), (k.trans k7).past k8 (by omega), (hg.to k7).wr k8 (by omega), (hg2.to k7).wr k8 (by omega), 1, _, _, hg8, ⟨m7, rfl, h7.wrT k8 hg7 (by decide)⟩, ?_⟩
    rw [show Lib.itoa 1 = [49] from by unfold Lib.itoa; rw [if_neg (by decide), show (1 : Int).toNat = 1 from rfl, Lib.decDigits_one (by decide)]; rfl]
    exact ⟨hm1, by have := k7.size; have := k8.size; omega⟩
  · intro hno
    rcases hok5 with ⟨_, z, hz, hzv⟩ | h
    · repeat (first | refine q_then ?_ | refine wp_skip ?_)
      exact ⟨by (repeat (first | refine agree_upd rfl ?_ | exact agree_over | refine agree_sub rfl ?_ | exact agree_refl | refine agree_base rfl ?_ | refine agree_base' rfl ?_)), k, hg, hg2, z, b, m0, hg5, hzv, by rw [← hz]; exact Nat.not_lt.1 fun h => hno (Or.inr h), Nat.le_refl _⟩
    · exact absurd (Or.inl h) hno
  rintro u2 w7 ⟨k7, hg7, hg27, z, b', m', hg47, hzv, hzl, hsz67⟩
  clear hok5 hg hg2 hg5 k
  have hS7 : Up S w7 := fun i hi => hS i (by omega)
  have hlen : (Lib.itoa z).length ≤ 30000 := by omega
  have hzz : zl z ≤ 3334 := zl_small hlen (by omega)
  repeat (first | refine r_load_all rfl hg47 rfl ?_ | refine wp_seq_region ?_ | refine wp_region ?_)
  refine r_call (zstr_c (v := .agg #[b', m']) hzv (by omega)) rfl ?_
  rintro v8 w8 ⟨rfl, k8⟩
  refine r_call (iparse_c (hS7.to k8) (by omega)) rfl ?_
  rintro v9 w9 ⟨k9, hp⟩
  have hz2 : ITried S w9 v9 z := by
    rcases hp with ⟨h, _⟩ | ⟨_, h, _⟩ | ⟨_, z', hz', h⟩
    · omega
    · exact absurd rfl (h z)
    · rw [itoa_inj hz']; exact h
  have hfit : z.natAbs < Big := fits_small (j := 3334) hlen (by omega) (by omega)
  obtain ⟨r9, e9, rfl, hor⟩ := hz2
  have h9 : IntV S 127 .u32 w9 r9 z := by
    rcases hor with ⟨_, _, h⟩ | ⟨h, _⟩
    · exact h
    · exact absurd hfit h
  obtain ⟨m9, rfl, h9⟩ := h9
  clear hor hp
  have k89 := k8.trans k9
  obtain ⟨mz, hbz, hmz⟩ := hzv
  have hbz1 : b' = .bool (tst (z < 0)) := by simp at hbz; exact hbz.1
  have hbz2 : m' = mz := by simp at hbz; exact hbz.2
  subst hbz1 hbz2
  repeat (first | refine r_move (by conv => (lhs; whnf)) ?_ | refine r_extract rfl rfl ?_)
  refine r_alloc (cs := [.bool false, .slice none 0 0]) rfl ?_
  intro w10 g10 k10 hg10 hgs10
  have k8a := k89.trans k10
  have hl1 := hg7.lt
  have hl2 := hg27.lt
  have hl4 := hg47.lt
  have hks7 := k7.size
  have hks8 := k89.size
  refine r_store2 rfl rfl hg10 rfl h9.one ?_
  intro w11 k11 hg11
  replace hg7 := (hg7.to k8a).wr k11 (by omega)
  replace hg27 := (hg27.to k8a).wr k11 (by omega)
  replace hg47 := (hg47.to k8a).wr k11 (by omega)
  replace h9 := (h9.to k10).wrT k11 hg10 (by decide)
  replace hmz := (hmz.to k8a).wrT k11 hg10 (by decide)
  replace k7 : Ext w w11 := (k7.trans k8a).past k11 (by omega)
  have hne : g ≠ g2 := by omega
  have hks11 := k7.size
  repeat (first | refine wp_seq_region ?_ | refine r_assign (by conv => (lhs; whnf)) ?_ | refine r_nil ?_)
  refine wp_drawnR (R := OneW g 26 [.bool false, .slice none 0 0] [.bool (tst (z < 0)), m9]) 3 OneW.trans OneW.drew (by kernel_rfl) (by kernel_rfl) ?_
  apply ob_stepR
  · intro x w1 k1 hd
    refine r_load_all rfl (hg11.wr k1.1 (by omega)) rfl ?_
    refine r_nil ?_
    exact ob_eqR OneW.refl
  apply ob_stepR
  · intro x w1 k1 hd
    refine r_load_all rfl (hg47.wr k1.1 (by omega)) rfl ?_
    refine r_nil ?_
    exact ob_eqR OneW.refl
  refine ob_stepR (e := EntR.of (fun v w => Blk w g 26 [.bool (tst (z < 0)), m9]) (fun v w w' h k => k.2.2 h)) ?_ ?_
  · intro x w1 k1 hd
    rcases k1.2.1 (.inl hg7) with hgx | hgx
    · refine r_store2 rfl rfl hgx rfl h9.one ?_
      intro w12 k12 hg12
      exact r_nil (ob_doneR (OneW.wrote k12 hg12) hg12)
    · refine r_store2 rfl rfl hgx rfl h9.one ?_
      intro w12 k12 hg12
      exact r_nil (ob_doneR (OneW.wrote k12 hg12) hg12)
  refine ob_nilR (ob_endR ?_)
  intro x w12 k12 hall
  have hg13 : Blk w12 g 26 [.bool (tst (z < 0)), m9] := hall.1
  refine r_store2 rfl rfl (hg27.wr k12.1 (by omega)) rfl hmz.one ?_
  intro w14 k14 hg14
  repeat (first | refine r_nil ?_ | refine q_then ?_ | refine wp_ret ?_)
  refine end2 rfl (resV_agg (by conv => (lhs; whnf)) (hg13.wr k14 (by omega)) rfl) (resV_agg (by conv => (lhs; whnf)) hg14 rfl) ⟨_, _, z, rfl, (k7.past k12.1 (by omega)).past k14 (by omega), by omega, ?_, ?_⟩
  · exact ⟨m9, rfl, (h9.wrT k12.1 hg7 (by decide)).wrT k14 (hg27.wr k12.1 (by omega)) (by decide)⟩
  · exact ⟨m', rfl, (hmz.wrT k12.1 hg7 (by decide)).wrT k14 (hg27.wr k12.1 (by omega)) (by decide)⟩
end Go.Proofs.YtpmnjjmngogkkaaGreatDoor
end

section
/- The reference's integers: quotients with rests. -/
set_option linter.unusedVariables false
set_option linter.unusedSimpArgs false
namespace Go.Proofs.YtpmnjjmngogkkaaGreatDoor
open Go Go.RowKit

set_option maxHeartbeats 1000000 in
theorem zdiv_c {S : Nat → Prop} {w : World} {va vb : Value} {a b : Int} (hS : Up S w) (ha : ZV S w va a) (hb : ZV S w vb b) (hla : zl a ≤ 15999999998000) (hlb : zl b ≤ 15999999998000) (hb0 : b ≠ 0) :
    Gives Tryz.prog 37 [va, vb] w fun v' w' => ∃ vq vr, v' = .tuple #[vq, vr] ∧ Ext w w' ∧ ZV S w' vq (a / b) ∧ ZV S w' vr (a % b) := by
  obtain ⟨hq1, hq2, hq3⟩ := edm_abs (a := a) hb0
  unfold zl at hla hlb
  have ha0 := ha
  have hb0 := hb
  obtain ⟨ma, rfl, hma⟩ := ha
  obtain ⟨mb, rfl, hmb⟩ := hb
  refine gives_of Tryz.func37 rfl rfl rfl ?_
  repeat (first | refine wp_seq_region ?_ | refine wp_region ?_)
  refine r_box (cs := [.bool (tst (a < 0)), ma]) (by conv => (lhs; whnf)) rfl ?_
  intro w1 ga k1 hga hgsa
  skip
  refine r_box (cs := [.bool (tst (b < 0)), mb]) (by conv => (lhs; whnf)) rfl ?_
  intro w2 gb k2 hgb hgsb
  replace hga := hga.to k2
  have k := k1.trans k2
  clear k1 k2
  skip
  have hsz := k.size
  refine r_alloc (cs := [.bool false, .slice none 0 0]) rfl ?_
  intro w3 g k3 hg hgs
  replace hga := hga.to k3
  replace hgb := hgb.to k3
  replace k := k.trans k3
  clear k3
  skip
  have hsz2 := k.size
  refine r_alloc (cs := [.bool false, .slice none 0 0]) rfl ?_
  intro w32 g2 k3 hg2 hgs2
  replace hga := hga.to k3
  replace hgb := hgb.to k3
  have hgl := hg.lt
  replace hg := hg.to k3
  replace k := k.trans k3
  clear k3
  replace ha0 := ha0.to k
  replace hb0 := hb0.to k
  replace hma := hma.to k
  replace hmb := hmb.to k
  replace hS := hS.to k
  repeat (first | refine wp_seq_region ?_ | refine wp_region ?_ | refine r_nil ?_ | refine r_field rfl ?_)
  repeat (first | refine r_load_blk rfl hga rfl ?_ | refine r_load_blk rfl hgb rfl ?_ | refine r_field rfl ?_)
  refine r_call (divN_c hS hma hmb (by omega) (by omega) (by omega)) rfl ?_
  rintro v5 w5 ⟨vq, vr, rfl, k5, hvq, hvr⟩
  replace hga := hga.to k5
  replace hgb := hgb.to k5
  replace hg := hg.to k5
  replace hg2 := hg2.to k5
  replace k := k.trans k5
  replace hmb := hmb.to k5
  replace hS := hS.to k5
  have hlq : dl (a.natAbs / b.natAbs) ≤ 15999999998000 := Nat.le_trans (dl_mono (Nat.div_le_self ..)) hla
  have hlr : a.natAbs % b.natAbs < b.natAbs := Nat.mod_lt _ (by omega)
  have hlr' := @dl_eq_zero (a.natAbs % b.natAbs)
  clear k5
  repeat (first | refine r_load_blk rfl hga rfl ?_ | refine wp_seq_region ?_ | refine wp_seq_seq ?_ | refine wp_region ?_ | refine r_move (by conv => (lhs; whnf)) ?_ | refine r_assign (by conv => (lhs; whnf)) ?_ | refine r_nil ?_ | refine r_extract rfl rfl ?_ | refine r_notB rfl ?_ | refine r_field rfl ?_)
  refine r_mid [(19, 23)] (fun ρ w' => ρ 23 = .bool (tst (¬ (a < 0 ∧ 0 < a.natAbs % b.natAbs))) ∧ w' = w5) ?_ ?_
  · refine r_guard_split rfl rfl ?_ ?_ <;> intro hneg
    · repeat (first | refine r_nil ?_ | refine q_then ?_ | refine r_guard_skip rfl rfl rfl ?_ | refine r_pick_true rfl (by conv => (lhs; whnf)) ?_)
      exact ⟨by (repeat (first | refine agree_upd rfl ?_ | exact agree_over | refine agree_sub rfl ?_ | exact agree_refl | refine agree_base rfl ?_ | refine agree_base' rfl ?_)), by rw [tst_true (show ¬ (a < 0 ∧ 0 < a.natAbs % b.natAbs) from fun h => hneg h.1)]; rfl, rfl⟩
    · repeat (first | refine r_move (by conv => (lhs; whnf)) ?_ | refine r_nil ?_ | refine q_then ?_ | refine r_len (by conv => (lhs; whnf)) (by assumption) ?_ | refine r_guard_run rfl rfl ?_ | refine r_pick_false rfl (by conv => (lhs; whnf)) ?_ | refine r_eql rfl rfl ?_)
      refine ⟨by (repeat (first | refine agree_upd rfl ?_ | exact agree_over | refine agree_sub rfl ?_ | exact agree_refl | refine agree_base rfl ?_ | refine agree_base' rfl ?_)), congrArg Value.bool (tst_congr ?_), rfl⟩
      unfold dl at hlr'
      omega
  rintro u w6 ⟨h23, rfl⟩
  refine wp_learn 23 h23 ?_
  clear h23
  skip
  try refine wp_seq_cond ?_
  refine wp_cond_dec rfl ?_ ?_ <;> intro hr
  · have hqa : qAbs a b = a.natAbs / b.natAbs := by unfold qAbs; rw [if_neg hr]
    have hra : rAbs a b = a.natAbs % b.natAbs := by unfold rAbs; rw [if_neg hr]
    repeat (first | refine r_load_blk rfl hga rfl ?_ | refine r_load_blk rfl hgb rfl ?_ | refine wp_seq_region ?_ | refine wp_region ?_ | refine r_move (by conv => (lhs; whnf)) ?_ | refine r_neqB rfl rfl ?_ | refine r_field rfl ?_)
    refine r_call (zInt_c (a / b) hvq (by rw [hq1, hqa]) (by rw [hq2, hqa])) rfl ?_
    rintro v8 w8 ⟨k8, m8, rfl, h8⟩
    repeat (first | refine r_move (by conv => (lhs; whnf)) ?_)
    refine r_call (zInt0_c (hvr.to k8)) rfl ?_
    rintro v9 w9 ⟨k9, m9, rfl, h9⟩
    skip
    have k89 := k8.trans k9
    refine r_store2 rfl rfl (hg.to k89) rfl h8.one ?_
    intro w10 k10 hg10
    refine r_store2 rfl rfl ((hg2.to k89).wr k10 (by omega)) rfl h9.one ?_
    intro w11 k11 hg11
    repeat (first | refine r_nil ?_ | refine q_then ?_ | refine wp_ret ?_ | refine q_then_ret ?_)
    refine end2 rfl (resV_agg (by conv => (lhs; whnf)) (hg10.wr k11 (by omega)) rfl) (resV_agg (by conv => (lhs; whnf)) hg11 rfl) ⟨_, _, rfl, ((k.trans k89).past k10 (by omega)).past k11 (by omega), ?_, ?_⟩
    · exact ⟨m8, rfl, ((h8.to k9).wrT k10 (hg.to k89) (by decide)).wrT k11 ((hg2.to k89).wr k10 (by omega)) (by decide)⟩
    · rw [hq3, hra]
      exact ⟨m9, rfl, (h9.wrT k10 (hg.to k89) (by decide)).wrT k11 ((hg2.to k89).wr k10 (by omega)) (by decide)⟩
  · have hr' : a < 0 ∧ 0 < a.natAbs % b.natAbs := Classical.not_not.1 hr
    have hqa : qAbs a b = a.natAbs / b.natAbs + 1 := by unfold qAbs; rw [if_pos hr']
    have hra : rAbs a b = b.natAbs - a.natAbs % b.natAbs := by unfold rAbs; rw [if_pos hr']
    repeat (first | refine wp_seq_region ?_ | refine wp_skip ?_)
    refine wp_drawn 14 (by kernel_rfl) (by kernel_rfl) ?_
    apply ob_step
    · intro x w1 k1 hd
      refine r_field rfl ?_
      refine r_nil ?_
      exact ob_eq
    apply ob_step
    · intro x w1 k1 hd
      refine r_load_blk rfl (hga.to k1) rfl ?_
      refine r_nil ?_
      exact ob_eq
    apply ob_step
    · intro x w1 k1 hd
      refine r_field rfl ?_
      refine r_nil ?_
      exact ob_eq
    apply ob_step
    · intro x w1 k1 hd
      refine r_load_blk rfl (hgb.to k1) rfl ?_
      refine r_nil ?_
      exact ob_eq
    apply ob_step
    · intro x w1 k1 hd
      refine r_neqB rfl rfl ?_
      refine r_nil ?_
      exact ob_eq
    apply ob_step
    · intro x w1 k1 hd
      refine r_move (by conv => (lhs; whnf)) ?_
      refine r_nil ?_
      exact ob_eq
    refine ob_step (e := nE S 1) ?_ ?_
    · intro x w1 k1 hd
      refine r_lit1 (by conv => (lhs; whnf)) rfl ?_
      intro w2 g2 k2 hb2 hg2'
      refine r_nil (ob_of k2 ?_)
      exact Row.of_blk (s := 1) (n := 1) (cap := 1) hb2 ((hS.to k1) g2 hg2') (Nat.le_refl _) (by unfold maxLen; omega) rfl
    refine ob_step (e := nE S (a.natAbs / b.natAbs + 1)) ?_ ?_
    · intro x w1 k1 hd
      refine r_call (addN_c (hS.to k1) (hvq.to k1) hd.1 (by omega) (Nat.le_trans (dl_le (k := 1) (by decide)) (by decide))) rfl ?_
      rintro v2 w2 ⟨k2, h2⟩
      exact r_nil (ob_of k2 h2)
    refine ob_step (e := zE S (a / b)) ?_ ?_
    · intro x w1 k1 hd
      refine r_call (zInt_c (a / b) hd.1 (by rw [hq1, hqa]) (by rw [hq2, hqa])) rfl ?_
      rintro v2 w2 ⟨k2, h2⟩
      exact r_nil (ob_of k2 h2)
    apply ob_step
    · intro x w1 k1 hd
      refine r_field rfl ?_
      refine r_nil ?_
      exact ob_eq
    apply ob_step
    · intro x w1 k1 hd
      refine r_load_blk rfl (hgb.to k1) rfl ?_
      refine r_nil ?_
      exact ob_eq
    apply ob_step
    · intro x w1 k1 hd
      refine r_move (by conv => (lhs; whnf)) ?_
      refine r_nil ?_
      exact ob_eq
    refine ob_step (e := nE S (b.natAbs - a.natAbs % b.natAbs)) ?_ ?_
    · intro x w1 k1 hd
      refine r_call (subN_c (hS.to k1) (hmb.to k1) (hvr.to k1) (by omega) (by omega)) rfl ?_
      rintro v2 w2 ⟨k2, h2⟩
      exact r_nil (ob_of k2 h2)
    refine ob_step (e := zE S ((b.natAbs - a.natAbs % b.natAbs : Nat) : Int)) ?_ ?_
    · intro x w1 k1 hd
      refine r_call (zInt0_c hd.1) rfl ?_
      rintro v2 w2 ⟨k2, h2⟩
      exact r_nil (ob_of k2 h2)
    refine ob_nil (ob_end ?_)
    intro x w8 k8 hall
    obtain ⟨m9, hx9, h9⟩ : ZV S w8 (x 13) ((b.natAbs - a.natAbs % b.natAbs : Nat) : Int) := hall.1
    obtain ⟨m8, hx8, h8⟩ : ZV S w8 (x 8) (a / b) := hall.2.2.2.2.2.1
    refine r_store2 rfl hx8 (hg.to k8) rfl h8.one ?_
    intro w10 k10 hg10
    refine r_store2 rfl hx9 ((hg2.to k8).wr k10 (by omega)) rfl h9.one ?_
    intro w11 k11 hg11
    repeat (first | refine r_nil ?_ | refine q_then ?_ | refine wp_ret ?_)
    refine end2 rfl (resV_agg (by conv => (lhs; whnf)) (hg10.wr k11 (by omega)) rfl) (resV_agg (by conv => (lhs; whnf)) hg11 rfl) ⟨_, _, rfl, ((k.trans k8).past k10 (by omega)).past k11 (by omega), ?_, ?_⟩
    · exact ⟨m8, rfl, (h8.wrT k10 (hg.to k8) (by decide)).wrT k11 ((hg2.to k8).wr k10 (by omega)) (by decide)⟩
    · rw [hq3, hra]
      exact ⟨m9, rfl, (h9.wrT k10 (hg.to k8) (by decide)).wrT k11 ((hg2.to k8).wr k10 (by omega)) (by decide)⟩
end Go.Proofs.YtpmnjjmngogkkaaGreatDoor
end

section
/- Variables that are made and written at once. It holds for every program. -/
set_option linter.unusedVariables false
set_option linter.unusedSimpArgs false
namespace Go.Proofs.YtpmnjjmngogkkaaGreatDoor
open Go Go.RowKit

section rules
variable {P : Program} {n : Nat} {Q : Post} {ρ : Fr} {w : World} {all rest : List Oper} {d d2 : Tmp} {ty ty2 ty3 ty4 : TypeId} {pos pos2 pos3 pos4 : String} {aft aft2 aft3 aft4 : Array Edge}
/-- x := v -/
theorem r_new {T : TypeId} {s b : Nat} {z : Value} {agg : Bool} [ti : TyI P T s b z agg] {y : Operand} {us zs : List Value} {u : Value} (hz : z.cells = zs.toArray) (hy : ∀ g, ev (upd ρ d (.pointer (some ⟨g, 0, none⟩))) y = u) (hc : u.cells = us.toArray)
    (hl : us.length = s) (h1 : ∀ v ∈ us, v.oneCell' = true) (h : ∀ w' g, Ext w w' → w.heap.size ≤ g → Blk w' g T us → WpR P n all Q rest (upd ρ d (.pointer (some ⟨g, 0, none⟩))) w') :
    WpR P n all Q (⟨some d, .alloc T, ty, pos, aft, none⟩ :: ⟨none, .store T (.tmp d) y, ty2, pos2, aft2, none⟩ :: rest) ρ w := by
  refine r_alloc hz ?_
  intro w1 g k1 hg hgs
  have hzl : zs.length = s := by
    have := ti.zsize
    rw [hz] at this
    simpa using this
  refine r_store_all (us := us) (upd_same _ _ _) (hy g) hc hl hg hzl h1 ?_
  intro w2 k2 hg2
  exact h w2 g (k1.past k2 hgs) hgs hg2
/-- x, y := u, v -/
theorem r_new2 {T T2 : TypeId} {s b s2 b2 : Nat} {z z2 : Value} {agg agg2 : Bool} [ti : TyI P T s b z agg] [ti2 : TyI P T2 s2 b2 z2 agg2] {y y2 : Operand} {us zs us2 zs2 : List Value} {u u2 : Value} (hd : Nat.beq d d2 = false)
    (hz : z.cells = zs.toArray) (hz2 : z2.cells = zs2.toArray) (hy : ∀ g g2, ev (upd (upd ρ d (.pointer (some ⟨g, 0, none⟩))) d2 (.pointer (some ⟨g2, 0, none⟩))) y = u) (hy2 : ∀ g g2, ev (upd (upd ρ d (.pointer (some ⟨g, 0, none⟩))) d2 (.pointer (some ⟨g2, 0, none⟩))) y2 = u2)
    (hc : u.cells = us.toArray) (hc2 : u2.cells = us2.toArray) (hl : us.length = s) (hl2 : us2.length = s2) (h1 : ∀ v ∈ us, v.oneCell' = true) (h2 : ∀ v ∈ us2, v.oneCell' = true)
    (h : ∀ w' g g2, Ext w w' → w.heap.size ≤ g → w.heap.size ≤ g2 → g ≠ g2 → Blk w' g T us → Blk w' g2 T2 us2 → WpR P n all Q rest (upd (upd ρ d (.pointer (some ⟨g, 0, none⟩))) d2 (.pointer (some ⟨g2, 0, none⟩))) w') :
    WpR P n all Q (⟨some d, .alloc T, ty, pos, aft, none⟩ :: ⟨some d2, .alloc T2, ty2, pos2, aft2, none⟩ :: ⟨none, .store T (.tmp d) y, ty3, pos3, aft3, none⟩ :: ⟨none, .store T2 (.tmp d2) y2, ty4, pos4, aft4, none⟩ :: rest) ρ w := by
  refine r_alloc hz ?_
  intro w1 g k1 hg hgs
  refine r_alloc hz2 ?_
  intro w2 g2 k2 hg2 hgs2
  have hne := hg.lt
  have hs1 := k1.size
  have zl : ∀ {z : Value} {zs : List Value} {s : Nat}, z.cells = zs.toArray → z.cells.size = s → zs.length = s := by
    intro z zs s h1 h2
    rw [h1] at h2
    simpa using h2
  refine r_store_all (us := us) (by show upd _ _ _ d = _; rw [upd_ne hd, upd_same]) (hy g g2) hc hl (hg.to k2) (zl hz ti.zsize) h1 ?_
  intro w3 k3 hg3
  refine r_store_all (us := us2) (upd_same _ _ _) (hy2 g g2) hc2 hl2 (hg2.wr k3 (by omega)) (zl hz2 ti2.zsize) h2 ?_
  intro w4 k4 hg4
  exact h w4 g g2 (((k1.trans k2).past k3 hgs).past k4 (by omega)) hgs (by omega) (by omega) (hg3.wr k4 (by omega)) hg4
end rules
end Go.Proofs.YtpmnjjmngogkkaaGreatDoor
end

section
/- What the program does whatever the input is. -/
set_option linter.unusedVariables false
set_option linter.unusedSimpArgs false
namespace Go.Proofs.YtpmnjjmngogkkaaGreatDoor
open Go Go.RowKit

theorem big_pos : 1000 < Big := Nat.lt_of_lt_of_le (by decide) (Nat.le_trans (pow_mono_b (i := 2) (j := 3344) (by decide)) big_low)

def third : Rat := mkRat (1 * (3 : Int).sign) (3 : Int).natAbs
def sixth : Rat := mkRat (1 * (6 : Int).sign) (6 : Int).natAbs
theorem half_num : (third + sixth).num = 1 := by decide +kernel
theorem half_den : (third + sixth).den = 2 := by decide +kernel
theorem half_fits : Fits (third + sixth) := by
  have := big_pos
  unfold Fits
  rw [half_num, half_den]
  exact ⟨by show 1 < _; omega, by omega⟩
theorem half_str : rstr (third + sixth) = [49, 47, 50] := by
  unfold rstr Lib.itoa
  rw [half_num, half_den, if_neg (by decide), if_neg (by decide), show (1 : Int).toNat = 1 from rfl, Lib.decDigits_one (by decide), Lib.decDigits_one (by decide)]
  rfl
theorem q_str : Lib.itoa (-7 / 2) = [45, 52] := by
  rw [show (-7 / 2 : Int) = -4 by decide]
  unfold Lib.itoa
  rw [if_pos (by decide), show (-4 : Int).natAbs = 4 from rfl, Lib.decDigits_one (by decide)]
  rfl
theorem r_str : Lib.itoa (-7 % 2) = [49] := by
  rw [show (-7 % 2 : Int) = 1 by decide]
  unfold Lib.itoa
  rw [if_neg (by decide), show (1 : Int).toNat = 1 from rfl, Lib.decDigits_one (by decide)]
  rfl
theorem rl_of {q : Rat} {n m : Nat} (hn : 0 < n) (h1 : q.num.natAbs < 1000000000) (h2 : q.den < 1000000000) : rl q n := by
  have h : ∀ a, a < 1000000000 → dl a ≤ n := fun a ha => Nat.le_trans (dl_le (k := 1) (by omega)) hn
  exact ⟨h _ h1, h _ h2⟩

set_option maxRecDepth 100000 in
set_option maxHeartbeats 8000000 in
theorem awake_c {w : World} (ht : Tab w) : Gives Tryz.prog 20 [] w fun v' w' => v' = .bool true ∧ Ext w w' := by
  have hS : Up All w := Up.all
  refine gives_of Tryz.func20 rfl rfl rfl ?_
  repeat (first | refine wp_seq_region ?_ | refine wp_region ?_ | refine r_assign (by conv => (lhs; whnf)) ?_ | refine r_nil ?_)
  refine r_call (make_c (a := 1) (b := 3) hS (by decide) (by decide) (by decide) (by decide) (by decide)) rfl ?_
  rintro v1 w1 ⟨v, rfl, k, h1⟩
  replace h1 : RatV All w1 v third := h1
  obtain ⟨t1, rfl, h1, o11, o12, o13⟩ := RatV.tri h1
  repeat (first | refine r_move (by conv => (lhs; whnf)) ?_ | refine r_extract rfl rfl ?_)
  refine r_alloc (cs := [.bool false, .slice none 0 0, .slice none 0 0]) rfl ?_
  intro w2 g1 k2 hg1 hgs1
  have hsz1 := k.size
  replace h1 := h1.to k2
  refine r_store3 rfl rfl hg1 rfl o11 o12 o13 ?_
  intro w3 k3 hg13
  replace h1 := h1.wrT k3 hg1 (by decide)
  replace k := (k.trans k2).past k3 (by omega)
  replace hg1 : Blk w3 g1 34 (flat [t1]) := hg13
  clear k2 k3 hg13
  repeat (first | refine wp_seq_region ?_ | refine wp_region ?_ | refine r_assign (by conv => (lhs; whnf)) ?_ | refine r_nil ?_)
  refine r_call (make_c (a := 1) (b := 6) (hS.to k) (by decide) (by decide) (by decide) (by decide) (by decide)) rfl ?_
  rintro v4 w4 ⟨v, rfl, k4, h2⟩
  replace h2 : RatV All w4 v sixth := h2
  obtain ⟨t2, rfl, h2, o21, o22, o23⟩ := RatV.tri h2
  have hl1 := hg1.lt
  have hsz4 := k4.size
  replace hg1 := hg1.to k4
  replace h1 := h1.to k4
  replace k := k.trans k4
  repeat (first | refine r_move (by conv => (lhs; whnf)) ?_ | refine r_extract rfl rfl ?_)
  refine r_alloc (cs := [.bool false, .slice none 0 0, .slice none 0 0]) rfl ?_
  intro w5 g2 k5 hg2 hgs2
  replace hg1 := hg1.to k5
  replace h1 := h1.to k5
  replace h2 := h2.to k5
  refine r_store3 rfl rfl hg2 rfl o21 o22 o23 ?_
  intro w6 k6 hg26
  have hsz := k.size
  replace h1 := h1.wrT k6 hg2 (by decide)
  replace h2 := h2.wrT k6 hg2 (by decide)
  replace hg1 := hg1.wr k6 (by omega)
  replace k := (k.trans k5).past k6 (by omega)
  replace hg2 : Blk w6 g2 34 (flat [t2]) := hg26
  clear k4 k5 k6 hg26
  repeat (first | refine r_load_tri 0 rfl (by decide) hg1 rfl ?_ | refine r_load_tri 0 rfl (by decide) hg2 rfl ?_ | refine wp_seq_region ?_ | refine wp_region ?_ | refine r_assign (by conv => (lhs; whnf)) ?_ | refine r_nil ?_)
  refine r_call (radd_c (hS.to k) h1 h2 (rl_of (m := 0) (by decide) (by decide +kernel) (by decide +kernel)) (rl_of (m := 0) (by decide) (by decide +kernel) (by decide +kernel))) rfl ?_
  rintro v7 w7 ⟨k7, r, e, rfl, hor⟩
  have h3 : e = 0 ∧ RatV All w7 r (third + sixth) := by
    rcases hor with ⟨_, h, h'⟩ | ⟨h, _⟩
    · exact ⟨h, h'⟩
    · exact absurd half_fits h
  clear hor
  obtain ⟨rfl, h3⟩ := h3
  obtain ⟨t3, rfl, h3, o31, o32, o33⟩ := RatV.tri h3
  replace k := k.trans k7
  clear h1 h2 hg1 hg2 o11 o12 o13 o21 o22 o23 k7 hgs1 hgs2 hl1 hsz4
  repeat (first | refine r_move (by conv => (lhs; whnf)) ?_ | refine r_extract rfl rfl ?_)
  refine r_alloc (cs := [.bool false, .slice none 0 0, .slice none 0 0]) rfl ?_
  intro w8 g3 k8 hg3 hgs3
  replace h3 := h3.to k8
  refine r_store3 rfl rfl hg3 rfl o31 o32 o33 ?_
  intro w9 k9 hg39
  have hsz7 := k.size
  replace h3 := h3.wrT k9 hg3 (by decide)
  replace k := (k.trans k8).past k9 (by omega)
  replace hg3 : Blk w9 g3 34 (flat [t3]) := hg39
  clear k8 k9 hg39
  repeat (first | refine wp_seq_region ?_ | refine wp_region ?_ | refine r_assign (by conv => (lhs; whnf)) ?_ | refine r_nil ?_)
  refine r_call (whole_c (z := -7) (hS.to k) (by decide) (by decide)) rfl ?_
  rintro v10 w10 ⟨k10, hz1⟩
  skip
  refine r_call (whole_c (z := 2) ((hS.to k).to k10) (by decide) (by decide)) rfl ?_
  rintro v11 w11 ⟨k11, hz2⟩
  skip
  refine r_call (idiv_c (((hS.to k).to k10).to k11) (hz1.to k11) hz2 (Nat.le_trans (dl_le (k := 1) (by decide)) (by decide)) (Nat.le_trans (dl_le (k := 1) (by decide)) (by decide)) (by decide)) rfl ?_
  rintro v12 w12 ⟨vq, vr, rfl, k12, ⟨mq, rfl, hq⟩, ⟨mr, rfl, hr⟩⟩
  have kk := (k10.trans k11).trans k12
  have hg3l := hg3.lt
  have hszk := kk.size
  replace hg3 := hg3.to kk
  replace h3 := h3.to kk
  replace k := k.trans kk
  clear kk k10 k11 k12 hz1 hz2
  repeat (first | refine r_move (by conv => (lhs; whnf)) ?_ | refine r_extract rfl rfl ?_)
  refine r_alloc (cs := [.bool false, .slice none 0 0]) rfl ?_
  intro w13 g7 k13 hg7 hgs7
  skip
  refine r_alloc (cs := [.bool false, .slice none 0 0]) rfl ?_
  intro w14 g8 k14 hg8 hgs8
  have hg7l := hg7.lt
  replace hg7 := hg7.to k14
  have k134 := k13.trans k14
  replace hg3 := hg3.to k134
  replace h3 := h3.to k134
  replace hq := hq.to k134
  replace hr := hr.to k134
  have hsz12 := k.size
  have hsz13 := k13.size
  replace k := k.trans k134
  refine r_store2 rfl rfl hg7 rfl hq.one ?_
  intro w15 k15 hg75
  replace h3 := h3.wrT k15 hg7 (by decide)
  replace hq := hq.wrT k15 hg7 (by decide)
  replace hr := hr.wrT k15 hg7 (by decide)
  replace hg3 := hg3.wr k15 (by omega)
  replace hg8 := hg8.wr k15 (by omega)
  replace k := k.past k15 (by omega)
  refine r_store2 rfl rfl hg8 rfl hr.one ?_
  intro w16 k16 hg86
  replace h3 := h3.wrT k16 hg8 (by decide)
  replace hq := hq.wrT k16 hg8 (by decide)
  replace hr := hr.wrT k16 hg8 (by decide)
  replace hg7 := hg75.wr k16 (by omega)
  replace hg3 := hg3.wr k16 (by omega)
  replace k := k.past k16 (by omega)
  replace hg8 := hg86
  clear k13 k14 k134 k15 k16 hg75 hg86
  repeat (first | refine wp_seq_region ?_ | refine wp_region ?_ | refine r_assign (by conv => (lhs; whnf)) ?_ | refine r_nil ?_)
  refine r_call (of_c (z := 1) (hS.to k) (by decide) (by decide)) rfl ?_
  rintro v17 w17 ⟨k17, h4⟩
  obtain ⟨t4, rfl, h4, o41, o42, o43⟩ := RatV.tri h4
  have hg7l' := hg7.lt
  have hg8l' := hg8.lt
  have hg3l' := hg3.lt
  have hsz17 := k17.size
  replace hg3 := hg3.to k17
  replace h3 := h3.to k17
  replace hq := hq.to k17
  replace hr := hr.to k17
  replace hg7 := hg7.to k17
  replace hg8 := hg8.to k17
  replace k := k.trans k17
  refine r_alloc (cs := [.bool false, .slice none 0 0, .slice none 0 0]) rfl ?_
  intro w18 g4 k18 hg4 hgs4
  replace hg3 := hg3.to k18
  replace h3 := h3.to k18
  replace hq := hq.to k18
  replace hr := hr.to k18
  replace hg7 := hg7.to k18
  replace hg8 := hg8.to k18
  replace h4 := h4.to k18
  have hszz := k.size
  refine r_store3 rfl rfl hg4 rfl o41 o42 o43 ?_
  intro w19 k19 hg49
  replace h3 := h3.wrT k19 hg4 (by decide)
  replace hq := hq.wrT k19 hg4 (by decide)
  replace hr := hr.wrT k19 hg4 (by decide)
  replace h4 := h4.wrT k19 hg4 (by decide)
  replace hg3 := hg3.wr k19 (by omega)
  replace hg7 := hg7.wr k19 (by omega)
  replace hg8 := hg8.wr k19 (by omega)
  replace k := (k.trans k18).past k19 (by omega)
  replace hg4 : Blk w19 g4 34 (flat [t4]) := hg49
  clear k17 k18 k19 hg49 hgs4 hgs7 hgs8 hgs3 hg7l hg3l hsz hsz1 hsz7 hsz12 hsz13 hsz17 hszz hszk hg7l' hg8l' hg3l'
  have hS19 := hS.to k
  repeat (first | refine wp_seq_region ?_ | refine r_nil ?_)
  refine wp_drawn 11 (by kernel_rfl) (by kernel_rfl) ?_
  apply ob_step
  · intro x w1 k1 hd
    refine r_load_tri 0 rfl (by decide) (hg4.to k1) rfl ?_
    refine r_nil ?_
    exact ob_eq
  apply ob_step
  · intro x w1 k1 hd
    refine r_load_tri 0 rfl (by decide) (hg4.to k1) rfl ?_
    refine r_nil ?_
    exact ob_eq
  refine ob_step (e := Ent.of (fun v w => ∃ g, v = .slice (some ⟨g, 0, none⟩) 2 2 ∧ Blk w g 34 (flat [t4, t4])) (fun v w w' ⟨g, h, hb⟩ k => ⟨g, h, hb.to k⟩)) ?_ ?_
  · intro x w1 k1 hd
    refine r_lit_tri2 rfl rfl ?_
    intro w2 g k2 hg _
    exact r_nil (ob_of k2 ⟨g, rfl, hg⟩)
  refine ob_step (e := Ent.of (fun v w => ∃ gl gr, v = .slice (some ⟨gl, 0, none⟩) 1 1 ∧ Blk w gl 95 [.slice (some ⟨gr, 0, none⟩) 2 2] ∧ Blk w gr 34 (flat [t4, t4])) (fun v w w' ⟨g, gr, h, hb, hr⟩ k => ⟨g, gr, h, hb.to k, hr.to k⟩)) ?_ ?_
  · intro x w1 k1 hd
    obtain ⟨g, hx, hg⟩ : ∃ g, x 2 = .slice (some ⟨g, 0, none⟩) 2 2 ∧ Blk w1 g 34 (flat [t4, t4]) := hd.1
    refine r_lit1 (v := .slice (some ⟨g, 0, none⟩) 2 2) hx rfl ?_
    intro w2 gl k2 hgl _
    exact r_nil (ob_of k2 ⟨gl, g, rfl, hgl, hg.to k2⟩)
  refine ob_step (e := ratE All ((-1 : Int) : Rat)) ?_ ?_
  · intro x w1 k1 hd
    refine r_call (of_c (z := -1) (hS19.to k1) (by decide) (by decide)) rfl ?_
    rintro v2 w2 ⟨k2, h2⟩
    exact r_nil (ob_of k2 h2)
  refine ob_step (e := Ent.of (fun v w => ∃ (g : Nat) (t : Tri), v = .slice (some ⟨g, 0, none⟩) 1 1 ∧ Blk w g 34 (flat [t]) ∧ RatV All w (Tri.val t) (-1)) (fun v w w' ⟨g, t, h, hb, hr⟩ k => ⟨g, t, h, hb.to k, hr.to k⟩)) ?_ ?_
  · intro x w1 k1 hd
    obtain ⟨t, hx, htr, p1, p2, p3⟩ := RatV.tri (show RatV All w1 (x 4) ((-1 : Int) : Rat) from hd.1)
    refine r_lit_tri1 (u := t) hx p1 p2 p3 ?_
    intro w2 g k2 hg _
    exact r_nil (ob_of k2 ⟨g, t, rfl, hg, htr.to k2⟩)
  refine ob_step (e := Ent.of (fun v w => ∃ (gv capv : Nat) (tv : Tri) (cs : List Value), v = .tuple #[.slice (some ⟨gv, 0, none⟩) 1 capv, .bool true] ∧ Blk w gv 34 (tv.1 :: tv.2.1 :: tv.2.2 :: cs) ∧ RatV All w (Tri.val tv) 1) (fun v w w' ⟨g, c, t, cs, h, hb, hr⟩ k => ⟨g, c, t, cs, h, hb.to k, hr.to k⟩)) ?_ ?_
  · intro x w1 k1 hd
    obtain ⟨gb, tb, hxb, hgb, hB⟩ : ∃ (g : Nat) (t : Tri), x 5 = .slice (some ⟨g, 0, none⟩) 1 1 ∧ Blk w1 g 34 (flat [t]) ∧ RatV All w1 (Tri.val t) (-1) := hd.1
    obtain ⟨gl, gr, hxl, hgl, hgr⟩ : ∃ gl gr, x 3 = .slice (some ⟨gl, 0, none⟩) 1 1 ∧ Blk w1 gl 95 [.slice (some ⟨gr, 0, none⟩) 2 2] ∧ Blk w1 gr 34 (flat [t4, t4]) := hd.2.2.1
    refine r_call (refuse_c (capb := 1) (hS19.to k1) ((ht.to k).to k1) hgl hgr (h4.to k1) (h4.to k1) hgb hB) (args2 hxl hxb) ?_
    rintro v2 w2 ⟨k2, h2⟩
    exact r_nil (ob_of k2 h2)
  refine ob_step (e := Ent.of (fun v w => ∃ (gv capv : Nat) (tv : Tri) (cs : List Value), v = .tuple #[.slice (some ⟨gv, 0, none⟩) 1 capv, .bool true] ∧ Blk w gv 34 (tv.1 :: tv.2.1 :: tv.2.2 :: cs) ∧ RatV All w (Tri.val tv) 1) (fun v w w' ⟨g, c, t, cs, h, hb, hr⟩ k => ⟨g, c, t, cs, h, hb.to k, hr.to k⟩)) ?_ ?_
  · intro x w1 k1 hd
    refine r_move rfl ?_
    exact r_nil (ob_of .refl hd.1)
  refine ob_step (e := Ent.of (fun v w => ∃ (gv capv : Nat) (tv : Tri) (cs : List Value), v = .slice (some ⟨gv, 0, none⟩) 1 capv ∧ Blk w gv 34 (tv.1 :: tv.2.1 :: tv.2.2 :: cs) ∧ RatV All w (Tri.val tv) 1) (fun v w w' ⟨g, c, t, cs, h, hb, hr⟩ k => ⟨g, c, t, cs, h, hb.to k, hr.to k⟩)) ?_ ?_
  · intro x w1 k1 hd
    obtain ⟨gv, capv, tv, cs, hx, hg, hv⟩ : ∃ (gv capv : Nat) (tv : Tri) (cs : List Value), x 7 = .tuple #[.slice (some ⟨gv, 0, none⟩) 1 capv, .bool true] ∧ Blk w1 gv 34 (tv.1 :: tv.2.1 :: tv.2.2 :: cs) ∧ RatV All w1 (Tri.val tv) 1 := hd.1
    refine r_extract hx rfl ?_
    exact r_nil (ob_of .refl ⟨gv, capv, tv, cs, rfl, hg, hv⟩)
  refine ob_step (e := Ent.eq (.bool true)) ?_ ?_
  · intro x w1 k1 hd
    obtain ⟨gv, capv, tv, cs, hx, hg, hv⟩ : ∃ (gv capv : Nat) (tv : Tri) (cs : List Value), x 7 = .tuple #[.slice (some ⟨gv, 0, none⟩) 1 capv, .bool true] ∧ Blk w1 gv 34 (tv.1 :: tv.2.1 :: tv.2.2 :: cs) ∧ RatV All w1 (Tri.val tv) 1 := hd.2.1
    refine r_extract hx rfl ?_
    exact r_nil ob_eq
  refine ob_step (e := Ent.of (fun v w => ∃ (gv capv : Nat) (tv : Tri) (cs : List Value), v = .slice (some ⟨gv, 0, none⟩) 1 capv ∧ Blk w gv 34 (tv.1 :: tv.2.1 :: tv.2.2 :: cs) ∧ RatV All w (Tri.val tv) 1) (fun v w w' ⟨g, c, t, cs, h, hb, hr⟩ k => ⟨g, c, t, cs, h, hb.to k, hr.to k⟩)) ?_ ?_
  · intro x w1 k1 hd
    refine r_assign rfl ?_
    exact r_nil (ob_of .refl hd.2.1)
  refine ob_nil (ob_end ?_)
  intro x w20 k20 hall
  obtain ⟨gv, capv, tv, cs, hxv, hgv, hv⟩ : ∃ (gv capv : Nat) (tv : Tri) (cs : List Value), x 10 = .slice (some ⟨gv, 0, none⟩) 1 capv ∧ Blk w20 gv 34 (tv.1 :: tv.2.1 :: tv.2.2 :: cs) ∧ RatV All w20 (Tri.val tv) 1 := hall.1
  refine r_learn 11 hxv ?_
  replace hg3 := hg3.to k20
  replace h3 := h3.to k20
  replace hq := hq.to k20
  replace hr := hr.to k20
  replace hg7 := hg7.to k20
  replace hg8 := hg8.to k20
  replace k := k.trans k20
  clear hall k20 h4 hg4
  have ht20 := ht.to k
  repeat (first | refine r_load_tri 0 rfl (by decide) hg3 rfl ?_ | refine wp_seq_region ?_ | refine wp_region ?_ | refine r_move (by conv => (lhs; whnf)) ?_ | refine r_assign (by conv => (lhs; whnf)) ?_ | refine r_nil ?_ | refine r_guard_run rfl rfl ?_ | refine r_pick_true rfl (by conv => (lhs; whnf)) ?_ | refine r_eql rfl rfl ?_ | refine r_guard_yes rfl rfl (by omega) ?_)
  refine r_call (rstr_c (v := t3.val) ht20 h3 (rl_of (m := 0) (by decide) (by rw [half_num]; decide) (by rw [half_den]; decide))) rfl ?_
  rintro v21 w21 ⟨rfl, k21⟩
  refine r_guard_run rfl rfl ?_
  refine r_eqlS rfl rfl ?_
  repeat (first | refine r_move (by conv => (lhs; whnf)) ?_ | refine r_pick_true rfl (by conv => (lhs; whnf)) ?_)
  refine r_guard_yes rfl rfl half_str ?_
  repeat (first | refine r_load_all rfl (hg7.to k21) rfl ?_ | refine r_guard_run rfl rfl ?_)
  refine r_call (istr_c (a := -7 / 2) (ht20.to k21) ⟨mq, rfl, hq.to k21⟩ (Nat.le_trans (dl_le (k := 1) (by decide)) (by decide))) rfl ?_
  rintro v22 w22 ⟨rfl, k22⟩
  refine r_guard_run rfl rfl ?_
  refine r_eqlS rfl rfl ?_
  repeat (first | refine r_move (by conv => (lhs; whnf)) ?_ | refine r_pick_true rfl (by conv => (lhs; whnf)) ?_)
  refine r_guard_yes rfl rfl q_str ?_
  repeat (first | refine r_load_all rfl ((hg8.to k21).to k22) rfl ?_ | refine r_guard_run rfl rfl ?_)
  refine r_call (istr_c (a := -7 % 2) ((ht20.to k21).to k22) ⟨mr, rfl, (hr.to k21).to k22⟩ (Nat.le_trans (dl_le (k := 1) (by decide)) (by decide))) rfl ?_
  rintro v23 w23 ⟨rfl, k23⟩
  refine r_guard_run rfl rfl ?_
  refine r_eqlS rfl rfl ?_
  repeat (first | refine r_move (by conv => (lhs; whnf)) ?_ | refine r_pick_true rfl (by conv => (lhs; whnf)) ?_)
  refine r_guard_yes rfl rfl r_str ?_
  repeat (first | refine r_move (by conv => (lhs; whnf)) ?_ | refine r_len_sl rfl ?_ | refine r_guard_run rfl rfl ?_ | refine r_pick_true rfl (by conv => (lhs; whnf)) ?_ | refine r_eql rfl rfl ?_ | refine r_index_sl rfl rfl (by omega) (by omega) ?_ | refine r_guard_yes rfl rfl (by omega) ?_)
  have k3 := (k21.trans k22).trans k23
  replace hgv := hgv.to k3
  replace hv := hv.to k3
  repeat (first | refine r_load_part rfl hgv rfl rfl ?_ | refine r_guard_run rfl rfl ?_)
  refine r_call (rsign_c (v := tv.val) hv) rfl ?_
  rintro v24 w24 ⟨rfl, k24⟩
  repeat (first | refine r_assign (by conv => (lhs; whnf)) ?_ | refine r_nil ?_ | refine q_then ?_ | refine wp_ret ?_ | refine r_guard_run rfl rfl ?_ | refine r_pick_true rfl (by conv => (lhs; whnf)) ?_ | refine r_gtr rfl rfl ?_)
  refine end_tmp rfl (by conv => (lhs; whnf)) ⟨?_, (k.trans k3).trans k24⟩
  exact congrArg Value.bool (tst_true (by decide))
end Go.Proofs.YtpmnjjmngogkkaaGreatDoor
end
