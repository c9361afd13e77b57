/- Try Vec2 Pars Rdq New Fits StrR RefS Form IsDig IParse Cut RParse Take Ratio VP SymV SymE SymF SymG SymH SymI SymJ SymK -/
import Derived.Test.YtpheooheinfbgaaGreatDoorJoinsB2
import Derived.Lib.ItoaNum
import Derived.Test.YtpheooheinfbgaaGreatDoorJoinsB1
import Derived.Laws.IdiomStrings
import Derived.Test.YtpheooheinfbgaaGreatDoorShelf2
import Derived.Lib.IndexLaws
section
set_option linter.unusedVariables false
set_option linter.unusedSimpArgs false
namespace Go.Proofs.YtpheooheinfbgaaGreatDoor
open Go Go.RowKit
theorem GivesD.mono {P : Program} {f : FuncId} {args : List Value} {u : FrameMode} {w : World} {Φ Φ' : FrameMode → World → Prop} (h : GivesD P f args u w Φ) (k : ∀ u' w', Φ u' w' → Φ' u' w') : GivesD P f args u w Φ' :=
  CallsD.mono h fun e u' w' ⟨he, hp⟩ => ⟨he, k _ _ hp⟩
def Tried (S : Nat → Prop) (w : World) (v : Value) (q : Rat) : Prop :=
  ∃ r e, v = .tuple #[r, .int .i64 e] ∧ (Fits q ∧ e = 0 ∧ RatV S w r q ∨ ¬ Fits q ∧ e = 11 ∧ RatV S w r 0)
theorem zero_rat {S : Nat → Prop} {w : World} : RatV S w (.agg #[.bool false, .slice none 0 0, .slice none 0 0]) 0 := ⟨_, _, by rw [tst_false (by decide)], .nil, .nil⟩
theorem rattempt_c {S : Nat → Prop} {w : World} {v : Value} {q : Rat} (hS : Up S w) (h : RatV S w v q) :
    Gives Tryz.prog 97 [.func (.func 98) #[v] #[]] w fun v' w' => Ext w w' ∧ Tried S w' v' q := by
  refine gives_of_defer Tryz.func97 rfl rfl rfl ?_
  refine wpD_seq ?_
  repeat (first | refine wp_region ?_)
  refine r_alloc (cs := [.bool false, .slice none 0 0, .slice none 0 0]) rfl ?_
  intro w1 g1 k1 hg1 hgs1
  skip
  refine r_alloc (cs := [.int .i64 0]) rfl ?_
  intro w2 g2 k2 hg2 hgs2
  have hgl := hg1.lt
  replace hg1 := hg1.to k2
  have k := k1.trans k2
  have hk1 := k1.size
  repeat (first | refine r_nil ?_ | refine q_then ?_)
  refine wpD_seq_defer ?_
  refine wpD_end ?_ (fun e a ρ w hm hq => defQ_end hm hq)
  repeat (first | refine wp_seq_region ?_ | refine wp_region ?_ | refine r_move (by conv => (lhs; whnf)) ?_)
  refine r_callvE (first := [v]) (cap := []) rfl (rkept_c (hS.to k) (h.to k)) rfl ?_ ?_
  · rintro v3 w3 ⟨rfl, k3, hf⟩
    have h3 := h.to (k.trans k3)
    obtain ⟨m, b, hv, hm, hb⟩ := h3
    skip
    refine r_store3 rfl hv (hg1.to k3) rfl rfl hm.one hb.one ?_
    intro w4 k4 hg4
    have hg24 := (hg2.to k3).wr k4 (by omega)
    refine r_store (u := .int .i64 0) rfl rfl hg24 (show 0 < 1 by decide) rfl ?_
    intro w5 k5 hg5
    have hg45 := hg4.wr k5 (by omega)
    repeat (first | refine r_nil ?_ | refine q_then ?_ | refine wp_ret ?_)
    refine rcatch_idle.mono ?_
    rintro u' w' ⟨rfl, rfl⟩
    refine ⟨rfl, [.agg #[.bool (tst (q.num < 0)), m, b], .int .i64 0], ⟨_, _, resV_agg (by conv => (lhs; whnf)) hg45 rfl, ⟨_, _, resV_one (by conv => (lhs; whnf)) hg5, rfl, rfl⟩, rfl⟩, ?_⟩
    exact ⟨((Keeps.past (k.trans k3) k4 (by omega)).past k5 (by omega)), _, _, rfl, .inl ⟨hf, rfl, m, b, rfl, (hm.wrT k4 (hg1.to k3) (by decide)).wrT k5 hg24 (by decide), (hb.wrT k4 (hg1.to k3) (by decide)).wrT k5 hg24 (by decide)⟩⟩
  · rintro ch w3 ⟨rfl, k3, hf⟩
    refine q_then_panic ?_
    refine (rcatch_big (hg1.to k3) rfl (hg2.to k3)).mono ?_
    rintro u' w' ⟨hu, k4, h1, h2⟩
    refine ⟨hu, [.agg #[.bool false, .slice none 0 0, .slice none 0 0], .int .i64 11], ⟨_, _, resV_agg (by conv => (lhs; whnf)) h1 rfl, ⟨_, _, resV_one (by conv => (lhs; whnf)) h2, rfl, rfl⟩, rfl⟩, ?_⟩
    exact ⟨Keeps.later (k.trans k3) k4 (fun i hi _ => ⟨by omega, by omega⟩), _, _, rfl, .inr ⟨hf, rfl, zero_rat⟩⟩
theorem radd_c {S : Nat → Prop} {w : World} {va vb : Value} {a b : Rat} (hS : Up S w) (ha : RatV S w va a) (hb : RatV S w vb b) (hla : rl a 400000000000) (hlb : rl b 400000000000) :
    Gives Tryz.prog 111 [va, vb] w fun v' w' => Ext w w' ∧ Tried S w' v' (a + b) := by
  have ha0 := ha
  have hb0 := hb
  obtain ⟨ma, ba, rfl, hma, hba⟩ := ha
  obtain ⟨mb, bb, rfl, hmb, hbb⟩ := hb
  refine gives_of Tryz.func111 rfl rfl rfl ?_
  repeat (first | refine wp_seq_region ?_ | refine wp_region ?_)
  refine r_box (cs := [.bool (tst (a.num < 0)), ma, ba]) (by conv => (lhs; whnf)) rfl ?_
  intro w1 ga k1 hga hgsa
  skip
  refine r_box (cs := [.bool (tst (b.num < 0)), mb, bb]) (by conv => (lhs; whnf)) rfl ?_
  intro w2 gb k2 hgb hgsb
  skip
  refine r_alloc (cs := [.bool false, .slice none 0 0, .slice none 0 0]) rfl ?_
  intro w3 g k3 hg hgs
  replace hga := hga.to (k2.trans k3)
  replace hgb := hgb.to k3
  have k := (k1.trans k2).trans k3
  have hs := (k1.trans k2).size
  replace ha0 := ha0.to k
  replace hb0 := hb0.to k
  replace hma := hma.to k
  replace hmb := hmb.to k
  replace hba := hba.to k
  replace hbb := hbb.to k
  replace hS := hS.to k
  clear k1 k2 k3
  repeat (first | refine wp_seq_region ?_ | refine wp_region ?_ | refine r_assign (by conv => (lhs; whnf)) ?_ | refine r_nil ?_)
  repeat (first | refine r_load_all rfl hga rfl ?_ | refine r_load_all rfl hgb rfl ?_)
  refine r_call (rplus_c hS ha0 hb0 hla hlb) rfl ?_
  rintro v4 w4 ⟨k4, h4⟩
  repeat (first | refine r_func ?_)
  refine r_call (rattempt_c (hS.to k4) h4) rfl ?_
  rintro v5 w5 ⟨k5, r, e, rfl, hor⟩
  repeat (first | refine r_extract rfl rfl ?_)
  have k' := (k.trans k4).trans k5
  replace hg := (hg.to k4).to k5
  rcases hor with ⟨hf, rfl, m, b, rfl, hm, hb⟩ | ⟨hf, rfl, m, b, rfl, hm, hb⟩
  · refine r_store3 rfl rfl hg rfl rfl hm.one hb.one ?_
    intro w6 k6 hg6
    repeat (first | refine r_assign (by conv => (lhs; whnf)) ?_ | refine r_nil ?_ | refine q_then ?_ | refine wp_ret ?_)
    exact end2 rfl (resV_agg (by conv => (lhs; whnf)) hg6 rfl) (resV_tmp (by conv => (lhs; whnf))) ⟨Keeps.past k' k6 (by omega), _, _, rfl, .inl ⟨hf, rfl, m, b, rfl, hm.wrT k6 hg (by decide), hb.wrT k6 hg (by decide)⟩⟩
  · refine r_store3 rfl rfl hg rfl rfl hm.one hb.one ?_
    intro w6 k6 hg6
    repeat (first | refine r_assign (by conv => (lhs; whnf)) ?_ | refine r_nil ?_ | refine q_then ?_ | refine wp_ret ?_)
    exact end2 rfl (resV_agg (by conv => (lhs; whnf)) hg6 rfl) (resV_tmp (by conv => (lhs; whnf))) ⟨Keeps.past k' k6 (by omega), _, _, rfl, .inr ⟨hf, rfl, m, b, rfl, hm.wrT k6 hg (by decide), hb.wrT k6 hg (by decide)⟩⟩
theorem rmul_c {S : Nat → Prop} {w : World} {va vb : Value} {a b : Rat} (hS : Up S w) (ha : RatV S w va a) (hb : RatV S w vb b) (hla : rl a 400000000000) (hlb : rl b 400000000000) :
    Gives Tryz.prog 105 [va, vb] w fun v' w' => Ext w w' ∧ Tried S w' v' (a * b) := by
  have ha0 := ha
  have hb0 := hb
  obtain ⟨ma, ba, rfl, hma, hba⟩ := ha
  obtain ⟨mb, bb, rfl, hmb, hbb⟩ := hb
  refine gives_of Tryz.func105 rfl rfl rfl ?_
  repeat (first | refine wp_seq_region ?_ | refine wp_region ?_)
  refine r_box (cs := [.bool (tst (a.num < 0)), ma, ba]) (by conv => (lhs; whnf)) rfl ?_
  intro w1 ga k1 hga hgsa
  skip
  refine r_box (cs := [.bool (tst (b.num < 0)), mb, bb]) (by conv => (lhs; whnf)) rfl ?_
  intro w2 gb k2 hgb hgsb
  skip
  refine r_alloc (cs := [.bool false, .slice none 0 0, .slice none 0 0]) rfl ?_
  intro w3 g k3 hg hgs
  replace hga := hga.to (k2.trans k3)
  replace hgb := hgb.to k3
  have k := (k1.trans k2).trans k3
  have hs := (k1.trans k2).size
  replace ha0 := ha0.to k
  replace hb0 := hb0.to k
  replace hma := hma.to k
  replace hmb := hmb.to k
  replace hba := hba.to k
  replace hbb := hbb.to k
  replace hS := hS.to k
  clear k1 k2 k3
  repeat (first | refine wp_seq_region ?_ | refine wp_region ?_ | refine r_assign (by conv => (lhs; whnf)) ?_ | refine r_nil ?_)
  repeat (first | refine r_load_all rfl hga rfl ?_ | refine r_load_all rfl hgb rfl ?_)
  refine r_call (rtimes_c hS ha0 hb0 hla hlb) rfl ?_
  rintro v4 w4 ⟨k4, h4⟩
  repeat (first | refine r_func ?_)
  refine r_call (rattempt_c (hS.to k4) h4) rfl ?_
  rintro v5 w5 ⟨k5, r, e, rfl, hor⟩
  repeat (first | refine r_extract rfl rfl ?_)
  have k' := (k.trans k4).trans k5
  replace hg := (hg.to k4).to k5
  rcases hor with ⟨hf, rfl, m, b, rfl, hm, hb⟩ | ⟨hf, rfl, m, b, rfl, hm, hb⟩
  · refine r_store3 rfl rfl hg rfl rfl hm.one hb.one ?_
    intro w6 k6 hg6
    repeat (first | refine r_assign (by conv => (lhs; whnf)) ?_ | refine r_nil ?_ | refine q_then ?_ | refine wp_ret ?_)
    exact end2 rfl (resV_agg (by conv => (lhs; whnf)) hg6 rfl) (resV_tmp (by conv => (lhs; whnf))) ⟨Keeps.past k' k6 (by omega), _, _, rfl, .inl ⟨hf, rfl, m, b, rfl, hm.wrT k6 hg (by decide), hb.wrT k6 hg (by decide)⟩⟩
  · refine r_store3 rfl rfl hg rfl rfl hm.one hb.one ?_
    intro w6 k6 hg6
    repeat (first | refine r_assign (by conv => (lhs; whnf)) ?_ | refine r_nil ?_ | refine q_then ?_ | refine wp_ret ?_)
    exact end2 rfl (resV_agg (by conv => (lhs; whnf)) hg6 rfl) (resV_tmp (by conv => (lhs; whnf))) ⟨Keeps.past k' k6 (by omega), _, _, rfl, .inr ⟨hf, rfl, m, b, rfl, hm.wrT k6 hg (by decide), hb.wrT k6 hg (by decide)⟩⟩
theorem rquo_c {S : Nat → Prop} {w : World} {va vb : Value} {a b : Rat} (hS : Up S w) (ha : RatV S w va a) (hb : RatV S w vb b) (hla : rl a 400000000000) (hlb : rl b 400000000000) (hb0' : b.num ≠ 0) :
    Gives Tryz.prog 68 [va, vb] w fun v' w' => Ext w w' ∧ Tried S w' v' (a / b) := by
  have ha0 := ha
  have hb0 := hb
  obtain ⟨ma, ba, rfl, hma, hba⟩ := ha
  obtain ⟨mb, bb, rfl, hmb, hbb⟩ := hb
  refine gives_of Tryz.func68 rfl rfl rfl ?_
  repeat (first | refine wp_seq_region ?_ | refine wp_region ?_)
  refine r_box (cs := [.bool (tst (a.num < 0)), ma, ba]) (by conv => (lhs; whnf)) rfl ?_
  intro w1 ga k1 hga hgsa
  skip
  refine r_box (cs := [.bool (tst (b.num < 0)), mb, bb]) (by conv => (lhs; whnf)) rfl ?_
  intro w2 gb k2 hgb hgsb
  skip
  refine r_alloc (cs := [.bool false, .slice none 0 0, .slice none 0 0]) rfl ?_
  intro w3 g k3 hg hgs
  replace hga := hga.to (k2.trans k3)
  replace hgb := hgb.to k3
  have k := (k1.trans k2).trans k3
  have hs := (k1.trans k2).size
  replace ha0 := ha0.to k
  replace hb0 := hb0.to k
  replace hma := hma.to k
  replace hmb := hmb.to k
  replace hba := hba.to k
  replace hbb := hbb.to k
  replace hS := hS.to k
  clear k1 k2 k3
  repeat (first | refine wp_seq_region ?_ | refine wp_seq_seq ?_ | refine wp_region ?_ | refine r_assign (by conv => (lhs; whnf)) ?_ | refine r_nil ?_)
  repeat (first | refine r_load_all rfl hgb rfl ?_)
  refine r_call (rsign_c hb0) rfl ?_
  rintro v3 w3 ⟨rfl, k3⟩
  replace hS := hS.to k3
  replace hga := hga.to k3
  replace hgb := hgb.to k3
  replace hg := hg.to k3
  replace ha0 := ha0.to k3
  replace hb0 := hb0.to k3
  replace k := k.trans k3
  have hsg : b.num.sign ≠ 0 := fun h => hb0' (Int.sign_eq_zero_iff_zero.1 h)
  repeat (first | refine r_load_all rfl hga rfl ?_ | refine r_load_all rfl hgb rfl ?_ | refine wp_seq_region ?_ | refine wp_region ?_ | refine r_nil ?_ | refine q_then ?_ | refine wp_skip ?_ | refine r_eql rfl rfl ?_ | refine wp_cond_no rfl (by omega) ?_)
  refine r_call (rover_c hS ha0 hb0 hla hlb hb0') rfl ?_
  rintro v4 w4 ⟨k4, h4⟩
  repeat (first | refine r_func ?_)
  refine r_call (rattempt_c (hS.to k4) h4) rfl ?_
  rintro v5 w5 ⟨k5, r, e, rfl, hor⟩
  repeat (first | refine r_extract rfl rfl ?_)
  have k' := (k.trans k4).trans k5
  replace hg := (hg.to k4).to k5
  rcases hor with ⟨hf, rfl, m, b, rfl, hm, hb⟩ | ⟨hf, rfl, m, b, rfl, hm, hb⟩
  · refine r_store3 rfl rfl hg rfl rfl hm.one hb.one ?_
    intro w6 k6 hg6
    repeat (first | refine r_assign (by conv => (lhs; whnf)) ?_ | refine r_nil ?_ | refine q_then ?_ | refine wp_ret ?_)
    exact end2 rfl (resV_agg (by conv => (lhs; whnf)) hg6 rfl) (resV_tmp (by conv => (lhs; whnf))) ⟨Keeps.past k' k6 (by omega), _, _, rfl, .inl ⟨hf, rfl, m, b, rfl, hm.wrT k6 hg (by decide), hb.wrT k6 hg (by decide)⟩⟩
  · refine r_store3 rfl rfl hg rfl rfl hm.one hb.one ?_
    intro w6 k6 hg6
    repeat (first | refine r_assign (by conv => (lhs; whnf)) ?_ | refine r_nil ?_ | refine q_then ?_ | refine wp_ret ?_)
    exact end2 rfl (resV_agg (by conv => (lhs; whnf)) hg6 rfl) (resV_tmp (by conv => (lhs; whnf))) ⟨Keeps.past k' k6 (by omega), _, _, rfl, .inr ⟨hf, rfl, m, b, rfl, hm.wrT k6 hg (by decide), hb.wrT k6 hg (by decide)⟩⟩
end Go.Proofs.YtpheooheinfbgaaGreatDoor
end
section
set_option linter.unusedVariables false
set_option linter.unusedSimpArgs false
namespace Go.Proofs.YtpheooheinfbgaaGreatDoor
open Go Go.RowKit
def rstr (q : Rat) : List UInt8 := Lib.itoa q.num ++ (if q.den = 1 then [] else 47 :: Lib.decDigits q.den)
theorem nDigits_le_dl (a : Nat) {k : Nat} (h : dl a ≤ k) : Lib.nDigits a ≤ 9 * k + 1 := by
  by_cases h0 : a = 0
  · subst h0; rw [Lib.nDigits_small (by decide)]; omega
  · have := nDigits_dl (n := a) (by omega); omega
theorem itoa_length (z : Int) : (Lib.itoa z).length ≤ Lib.nDigits z.natAbs + 1 := by
  unfold Lib.itoa
  split
  · rw [List.length_cons, Lib.decDigits_length]; omega
  · rw [Lib.decDigits_length, show z.toNat = z.natAbs by omega]; omega
theorem rstr_c {S : Nat → Prop} {w : World} {v : Value} {q : Rat} (ht : Tab w) (h : RatV S w v q) (hl : rl q 400000000000) :
    Gives Tryz.prog 36 [v] w fun v' w' => v' = strV (rstr q) ∧ Ext w w' := by
  obtain ⟨m, b, rfl, hm, hb⟩ := h
  obtain ⟨hl1, hl2⟩ := hl
  have hbl : (dg (bot q)).length = 0 ↔ q.den = 1 := by
    have h1 := @dl_eq_zero (bot q)
    unfold dl at h1
    rw [h1]
    unfold bot
    have := q.den_pos
    split <;> omega
  have hn1 := itoa_length q.num
  have hn2 := nDigits_le_dl q.num.natAbs hl1
  have hn3 := nDigits_le_dl q.den hl2
  refine gives_of Tryz.func36 rfl rfl rfl ?_
  repeat (first | refine wp_seq_region ?_ | refine wp_region ?_)
  refine r_box (cs := [.bool (tst (q.num < 0)), m, b]) (by conv => (lhs; whnf)) rfl ?_
  intro w1 g k1 hg hgs
  replace hb := hb.to k1
  repeat (first | refine r_load_part rfl hg rfl rfl ?_ | refine wp_seq_region ?_ | refine wp_region ?_ | refine r_assign (by conv => (lhs; whnf)) ?_ | refine r_nil ?_ | refine r_field rfl ?_)
  refine r_call (istr_c (a := q.num) (ht.to k1) ⟨m, rfl, hm.to k1⟩ (by unfold zl; omega)) rfl ?_
  rintro v2 w2 ⟨rfl, k2⟩
  replace hg := hg.to k2
  replace hb := hb.to k2
  repeat (first | refine r_load_blk rfl hg rfl ?_ | refine wp_seq_region ?_ | refine wp_seq_seq ?_ | refine wp_region ?_ | refine r_assign (by conv => (lhs; whnf)) ?_ | refine r_nil ?_ | refine q_then ?_ | refine r_len (by conv => (lhs; whnf)) (by assumption) ?_ | refine r_gtr rfl rfl ?_ | refine r_field rfl ?_)
  try refine wp_seq_cond ?_
  refine wp_cond_dec rfl ?_ ?_ <;> intro hc
  · have hq : ¬ q.den = 1 := fun h => by have := hbl.2 h; omega
    have hbq : bot q = q.den := by unfold bot; rw [if_neg hq]
    rw [hbq] at hb
    repeat (first | refine r_load_blk rfl hg rfl ?_ | refine wp_region ?_ | refine r_move (by conv => (lhs; whnf)) ?_ | refine r_field rfl ?_)
    refine r_call (mstr_c ((ht.to k1).to k2) hb (by omega)) rfl ?_
    rintro v3 w3 ⟨rfl, k3⟩
    refine r_cat (a := [47]) rfl rfl (by rw [Lib.decDigits_length]; simp; omega) ?_
    refine r_cat rfl rfl (by rw [List.length_append, Lib.decDigits_length]; simp; omega) ?_
    repeat (first | refine wp_seq_region ?_ | refine wp_region ?_ | refine r_move (by conv => (lhs; whnf)) ?_ | refine r_assign (by conv => (lhs; whnf)) ?_ | refine r_nil ?_ | refine q_then ?_ | refine wp_ret ?_)
    refine end_tmp rfl (by conv => (lhs; whnf)) ⟨?_, (k1.trans k2).trans k3⟩
    unfold rstr
    rw [if_neg hq]
    rfl
  · have hq : q.den = 1 := hbl.1 (by omega)
    repeat (first | refine wp_seq_region ?_ | refine wp_region ?_ | refine r_move (by conv => (lhs; whnf)) ?_ | refine r_assign (by conv => (lhs; whnf)) ?_ | refine r_nil ?_ | refine q_then ?_ | refine wp_ret ?_ | refine wp_skip ?_)
    refine end_tmp rfl (by conv => (lhs; whnf)) ⟨?_, k1.trans k2⟩
    unfold rstr
    rw [if_pos hq, List.append_nil]
end Go.Proofs.YtpheooheinfbgaaGreatDoor
end
section
set_option linter.unusedVariables false
set_option linter.unusedSimpArgs false
namespace Go.Proofs.YtpheooheinfbgaaGreatDoor
open Go
def digV (l : List UInt8) : Nat := l.foldl (fun a c => 10 * a + (c.toNat - 48)) 0
def Dig (c : UInt8) : Prop := 48 ≤ c.toNat ∧ c.toNat ≤ 57
def DecL (l : List UInt8) : Prop := l ≠ [] ∧ (∀ c ∈ l, Dig c) ∧ (l.head? = some 48 → l.length = 1)
theorem digV_nil : digV [] = 0 := rfl
theorem digV_snoc (l : List UInt8) (c : UInt8) : digV (l ++ [c]) = 10 * digV l + (c.toNat - 48) := by
  unfold digV
  rw [List.foldl_append]
  rfl
theorem digV_append (a b : List UInt8) : digV (a ++ b) = digV a * 10 ^ b.length + digV b := by
  induction h : b.length generalizing b with
  | zero =>
    obtain rfl := List.eq_nil_of_length_eq_zero h
    simp [digV_nil]
  | succ k ih =>
    have hne : b ≠ [] := by rintro rfl; simp at h
    have e := List.dropLast_concat_getLast hne
    rw [← e, ← List.append_assoc, digV_snoc, digV_snoc, ih b.dropLast (by rw [List.length_dropLast]; omega), Nat.pow_succ]
    rw [Nat.mul_add, Nat.add_assoc, Nat.mul_left_comm, Nat.mul_comm 10]
theorem digV_lt {l : List UInt8} (h : ∀ c ∈ l, Dig c) : digV l < 10 ^ l.length := by
  induction hl : l.length generalizing l with
  | zero =>
    obtain rfl := List.eq_nil_of_length_eq_zero hl
    simp [digV_nil]
  | succ k ih =>
    have hne : l ≠ [] := by rintro rfl; simp at hl
    have e := List.dropLast_concat_getLast hne
    have h1 := ih (l := l.dropLast) (fun c hc => h c (List.dropLast_subset _ hc)) (by rw [List.length_dropLast]; omega)
    have h2 := h _ (List.getLast_mem hne)
    rw [← e, digV_snoc, Nat.pow_succ]
    unfold Dig at h2
    omega
theorem digV_dec (n : Nat) : digV (Lib.decDigits n) = n := by
  induction n using Nat.strongRecOn with
  | _ n ih =>
    rw [Lib.decDigits]
    by_cases h : n < 10
    · rw [dif_pos h]
      show 10 * 0 + ((UInt8.ofNat (48 + n)).toNat - 48) = n
      rw [UInt8.toNat_ofNat']
      omega
    · rw [dif_neg h, digV_snoc, ih _ (by omega), UInt8.toNat_ofNat']
      omega
theorem dec_ne (n : Nat) : Lib.decDigits n ≠ [] := by
  intro h
  have h1 := Lib.decDigits_length n
  rw [h] at h1
  have := Lib.nDigits_pos n
  simp at h1
  omega
theorem decL_dec (n : Nat) : DecL (Lib.decDigits n) := by
  refine ⟨dec_ne n, ?_, ?_⟩
  · induction n using Nat.strongRecOn with
    | _ n ih =>
      rw [Lib.decDigits]
      intro c hc
      by_cases h : n < 10
      · rw [dif_pos h] at hc
        rw [List.mem_singleton.1 hc]
        unfold Dig
        rw [UInt8.toNat_ofNat']
        omega
      · rw [dif_neg h] at hc
        rcases List.mem_append.1 hc with h1 | h1
        · exact ih _ (by omega) c h1
        · rw [List.mem_singleton.1 h1]
          unfold Dig
          rw [UInt8.toNat_ofNat']
          omega
  · intro h
    by_cases hn : n < 10
    · rw [Lib.decDigits_one hn]; rfl
    · exfalso

      have hp : 0 < n := by omega
      have h1 := high_digit hp
      have h2 := low_get (k := Lib.nDigits n) (v := n) (i := Lib.nDigits n - 1) (by have := Lib.nDigits_pos n; omega)
      rw [← dec_low] at h2
      have h3 : (Lib.decDigits n).reverse[Lib.nDigits n - 1]? = (Lib.decDigits n).head? := by
        have hl := Lib.decDigits_length n
        have hpos := Lib.nDigits_pos n
        rw [List.getElem?_reverse (by omega), hl, show Lib.nDigits n - 1 - (Lib.nDigits n - 1) = 0 by omega, List.head?_eq_getElem?]
      rw [h3, h] at h2
      have h4 := congrArg UInt8.toNat (Option.some.inj h2)
      rw [UInt8.toNat_ofNat'] at h4
      have h5 : (48 : UInt8).toNat = 48 := rfl
      rw [h5] at h4
      omega
theorem dec_digV {l : List UInt8} (h : DecL l) : Lib.decDigits (digV l) = l := by
  induction hl : l.length generalizing l with
  | zero => exact absurd (List.eq_nil_of_length_eq_zero hl) h.1
  | succ k ih =>
    have e := List.dropLast_concat_getLast h.1
    have h2 := h.2.1 _ (List.getLast_mem h.1)
    obtain ⟨c, hc⟩ : ∃ c, c = l.getLast h.1 := ⟨_, rfl⟩
    obtain ⟨t, ht⟩ : ∃ t, t = l.dropLast := ⟨_, rfl⟩
    rw [← hc] at h2 e
    rw [← ht] at e
    have htl : t.length = k := by rw [ht, List.length_dropLast]; omega
    rw [← e, digV_snoc]
    unfold Dig at h2
    rcases Nat.eq_zero_or_pos k with h0 | h0
    · obtain rfl := List.eq_nil_of_length_eq_zero (htl.trans h0)
      rw [digV_nil, Nat.mul_zero, Nat.zero_add, Lib.decDigits_one (by omega)]
      show [UInt8.ofNat (48 + (c.toNat - 48))] = [c]
      rw [show 48 + (c.toNat - 48) = c.toNat by omega, UInt8.ofNat_toNat]
    · have hne : t ≠ [] := by rintro rfl; simp at htl; omega
      have hhd : l.head? = t.head? := by rw [← e]; cases t with | nil => exact absurd rfl hne | cons x r => rfl
      have h48 : t.head? ≠ some 48 := by
        intro h3
        have := h.2.2 (hhd.trans h3)
        omega
      have hT : DecL t := ⟨hne, fun x hx => h.2.1 x (by rw [← e]; exact List.mem_append_left _ hx), fun h3 => absurd h3 h48⟩
      have hi := ih hT htl
      have hpos : 0 < digV t := by
        rcases Nat.eq_zero_or_pos (digV t) with h3 | h3
        · rw [h3, Lib.decDigits_one (by decide)] at hi
          rw [← hi] at h48
          exact absurd rfl h48
        · exact h3
      rw [Lib.decDigits, dif_neg (by omega), show (10 * digV t + (c.toNat - 48)) / 10 = digV t by omega, hi, show (10 * digV t + (c.toNat - 48)) % 10 = c.toNat - 48 by omega, show 48 + (c.toNat - 48) = c.toNat by omega, UInt8.ofNat_toNat]
theorem decL_iff {l : List UInt8} : DecL l ↔ ∃ n, l = Lib.decDigits n := ⟨fun h => ⟨_, (dec_digV h).symm⟩, fun ⟨n, h⟩ => h ▸ decL_dec n⟩
theorem itoa_inj {a b : Int} (h : Lib.itoa a = Lib.itoa b) : a = b := by
  have hd : ∀ n c, (Lib.decDigits n).head? = some c → 48 ≤ c.toNat := fun n c hc => ((decL_dec n).2.1 c (List.mem_of_head? hc)).1
  have neg : ∀ n m : Nat, Lib.decDigits n = 45 :: Lib.decDigits m → False := fun n m e => by
    have := hd n 45 (by rw [e]; rfl)
    exact absurd this (by decide)
  unfold Lib.itoa at h
  split at h <;> split at h
  · have := congrArg digV (List.cons.inj h).2
    rw [digV_dec, digV_dec] at this
    omega
  · exact (neg _ _ h.symm).elim
  · exact (neg _ _ h).elim
  · have := congrArg digV h
    rw [digV_dec, digV_dec] at this
    omega
theorem itoa_neg_iff {l : List UInt8} : (∃ z : Int, z < 0 ∧ 45 :: l = Lib.itoa z) ↔ DecL l ∧ l.head? ≠ some 48 := by
  constructor
  · rintro ⟨z, hz, h⟩
    unfold Lib.itoa at h
    rw [if_pos hz] at h
    have hl := (List.cons.inj h).2
    refine ⟨decL_iff.2 ⟨_, hl⟩, fun h48 => ?_⟩
    have h1 := (decL_dec z.natAbs).2.2 (by rw [← hl]; exact h48)
    rw [hl] at h48
    rw [Lib.decDigits_length] at h1
    have h2 : z.natAbs < 10 := by
      have := Lib.lt_pow_nDigits z.natAbs
      rw [h1] at this
      omega
    rw [Lib.decDigits_one h2] at h48
    have h3 := congrArg UInt8.toNat (Option.some.inj h48)
    rw [UInt8.toNat_ofNat'] at h3
    have h5 : (48 : UInt8).toNat = 48 := rfl
    rw [h5] at h3
    omega
  · rintro ⟨h, h48⟩
    have hp : 0 < digV l := by
      rcases Nat.eq_zero_or_pos (digV l) with h3 | h3
      · have hi := dec_digV h
        rw [h3, Lib.decDigits_one (by decide)] at hi
        rw [← hi] at h48
        exact absurd rfl h48
      · exact h3
    refine ⟨-(digV l : Int), by omega, ?_⟩
    unfold Lib.itoa
    rw [if_pos (by omega), show (-(digV l : Int)).natAbs = digV l by omega, dec_digV h]
theorem itoa_pos {l : List UInt8} (h : DecL l) : l = Lib.itoa (digV l : Int) := by
  unfold Lib.itoa
  rw [if_neg (by omega), show ((digV l : Int)).toNat = digV l from rfl, dec_digV h]
theorem itoa_cases (z : Int) : (∃ l, Lib.itoa z = 45 :: l ∧ z < 0) ∨ DecL (Lib.itoa z) := by
  unfold Lib.itoa
  split
  · rename_i h; exact .inl ⟨_, rfl, h⟩
  · exact .inr (decL_dec _)
theorem dec_pos {l : List UInt8} (h : DecL l) (h48 : l.head? ≠ some 48) : 0 < digV l := by
  rcases Nat.eq_zero_or_pos (digV l) with h3 | h3
  · have hi := dec_digV h
    rw [h3, Lib.decDigits_one (by decide)] at hi
    rw [← hi] at h48
    exact absurd rfl h48
  · exact h3
theorem itoa_negV {l : List UInt8} (h : DecL l) (h48 : l.head? ≠ some 48) : 45 :: l = Lib.itoa (-(digV l : Int)) := by
  have hp := dec_pos h h48
  unfold Lib.itoa
  rw [if_pos (by omega), show (-(digV l : Int)).natAbs = digV l by omega, dec_digV h]
def NegS (s : List UInt8) : Prop := s.head? = some 45
instance dec_NegS (s : List UInt8) : Decidable (NegS s) := by unfold NegS; exact inferInstance
def Dgs (s : List UInt8) : List UInt8 := if NegS s then s.drop 1 else s
theorem dgs_neg {s : List UInt8} (h : NegS s) : s = 45 :: Dgs s := by
  unfold Dgs
  rw [if_pos h]
  unfold NegS at h
  cases s with
  | nil => cases h
  | cons c r => simp at h; subst h; rfl
theorem dgs_pos {s : List UInt8} (h : ¬ NegS s) : Dgs s = s := by unfold Dgs; rw [if_neg h]
theorem dgs_le (s : List UInt8) : (Dgs s).length ≤ s.length := by
  unfold Dgs
  split
  · rw [List.length_drop]; omega
  · exact Nat.le_refl _
def numV (s : List UInt8) : Int := if NegS s then -(digV (Dgs s) : Int) else digV (Dgs s)
theorem num_val {s : List UInt8} (h : DecL (Dgs s)) (h48 : NegS s → (Dgs s).head? ≠ some 48) : s = Lib.itoa (numV s) := by
  unfold numV
  by_cases hn : NegS s
  · rw [if_pos hn, ← itoa_negV h (h48 hn)]
    exact dgs_neg hn
  · rw [if_neg hn, ← itoa_pos h]
    exact (dgs_pos hn).symm
theorem num_iff (s : List UInt8) : (∃ z, s = Lib.itoa z) ↔ DecL (Dgs s) ∧ (NegS s → (Dgs s).head? ≠ some 48) := by
  constructor
  · rintro ⟨z, hz⟩
    rcases itoa_cases z with ⟨l, hl, hneg⟩ | hd
    · have hn : NegS s := by unfold NegS; rw [hz, hl]; rfl
      have he := dgs_neg hn
      have h1 := itoa_neg_iff.1 ⟨z, hneg, hl.symm⟩
      rw [hz, hl] at he
      have e : Dgs s = l := by rw [hz, hl]; exact (List.cons.inj he).2.symm
      rw [e]
      exact ⟨h1.1, fun _ => h1.2⟩
    · rw [← hz] at hd
      have hn : ¬ NegS s := by
        intro hn
        unfold NegS at hn
        have := (hd.2.1 45 (List.mem_of_head? hn)).1
        exact absurd this (by decide)
      rw [dgs_pos hn]
      exact ⟨hd, fun h => absurd h hn⟩
  · rintro ⟨h, h48⟩
    exact ⟨_, num_val h h48⟩
end Go.Proofs.YtpheooheinfbgaaGreatDoor
end
section
set_option linter.unusedVariables false
set_option linter.unusedSimpArgs false
namespace Go.Proofs.YtpheooheinfbgaaGreatDoor
open Go Go.RowKit
theorem dec_no47 (n : Nat) : (47 : UInt8) ∉ Lib.decDigits n := fun h => by
  have := (decL_dec n).2.1 _ h
  unfold Dig at this
  have h47 : (47 : UInt8).toNat = 47 := rfl
  omega
theorem itoa_no47 (z : Int) : (47 : UInt8) ∉ Lib.itoa z := by
  unfold Lib.itoa
  split
  · intro h
    rcases List.mem_cons.1 h with h | h
    · cases h
    · exact dec_no47 _ h
  · exact dec_no47 _
theorem cut_inj : ∀ {a b c d : List UInt8}, (47 : UInt8) ∉ a → (47 : UInt8) ∉ c → a ++ 47 :: b = c ++ 47 :: d → a = c ∧ b = d := by
  intro a
  induction a with
  | nil =>
    intro b c d _ hc h
    cases c with
    | nil => simpa using h
    | cons y c =>
      simp only [List.nil_append, List.cons_append, List.cons.injEq] at h
      exact absurd (h.1 ▸ List.mem_cons_self ..) hc
  | cons x a ih =>
    intro b c d ha hc h
    cases c with
    | nil =>
      simp only [List.nil_append, List.cons_append, List.cons.injEq] at h
      exact absurd (h.1 ▸ List.mem_cons_self ..) ha
    | cons y c =>
      simp only [List.cons_append, List.cons.injEq] at h
      obtain ⟨h1, h2⟩ := ih (fun h => ha (List.mem_cons_of_mem _ h)) (fun h => hc (List.mem_cons_of_mem _ h)) h.2
      exact ⟨by rw [h.1, h1], h2⟩
theorem rstr_int {q : Rat} (h : q.den = 1) : rstr q = Lib.itoa q.num := by unfold rstr; rw [if_pos h, List.append_nil]
theorem rstr_frac {q : Rat} (h : q.den ≠ 1) : rstr q = Lib.itoa q.num ++ 47 :: Lib.decDigits q.den := by unfold rstr; rw [if_neg h]
theorem rstr_none {s : List UInt8} (hs : (47 : UInt8) ∉ s) (q : Rat) : s = rstr q ↔ q.den = 1 ∧ s = Lib.itoa q.num := by
  by_cases h : q.den = 1
  · rw [rstr_int h]; exact ⟨fun h2 => ⟨h, h2⟩, fun h2 => h2.2⟩
  · constructor
    · intro h2
      rw [rstr_frac h] at h2
      exact absurd (h2 ▸ List.mem_append_right _ (List.mem_cons_self ..)) hs
    · exact fun h2 => absurd h2.1 h
theorem rstr_cut {a b : List UInt8} (ha : (47 : UInt8) ∉ a) (q : Rat) : a ++ 47 :: b = rstr q ↔ q.den ≠ 1 ∧ a = Lib.itoa q.num ∧ b = Lib.decDigits q.den := by
  by_cases h : q.den = 1
  · constructor
    · intro h2
      rw [rstr_int h] at h2
      exact absurd (h2 ▸ List.mem_append_right _ (List.mem_cons_self ..)) (itoa_no47 _)
    · exact fun h2 => absurd h h2.1
  · rw [rstr_frac h]
    constructor
    · exact fun h2 => ⟨h, cut_inj ha (itoa_no47 _) h2⟩
    · rintro ⟨_, rfl, rfl⟩; rfl
theorem rat_of (n : Int) {d : Nat} (hd : d ≠ 0) (hg : Nat.gcd n.natAbs d = 1) : ∃ q : Rat, q.num = n ∧ q.den = d := ⟨⟨n, d, hd, hg⟩, rfl, rfl⟩
theorem rat_gcd (q : Rat) : Nat.gcd q.num.natAbs q.den = 1 := q.reduced
theorem rstr_inj {p q : Rat} (h : rstr p = rstr q) : p = q := by
  by_cases hp : p.den = 1
  · have h2 := (rstr_none (itoa_no47 p.num) q).1 ((rstr_int hp).symm.trans h)
    exact Rat.ext (itoa_inj h2.2) (hp.trans h2.1.symm)
  · have h2 := (rstr_cut (itoa_no47 p.num) q).1 ((rstr_frac hp).symm.trans h)
    refine Rat.ext (itoa_inj h2.2.1) ?_
    have h3 := congrArg digV h2.2.2
    rwa [digV_dec, digV_dec] at h3
theorem num_len (q : Rat) : (Lib.itoa q.num).length ≤ (rstr q).length := by unfold rstr; rw [List.length_append]; omega
theorem den_len (q : Rat) : Lib.nDigits q.den ≤ (rstr q).length := by
  by_cases h : q.den = 1
  · rw [h, Lib.nDigits_small (by decide), rstr_int h]
    cases h2 : Lib.itoa q.num with
    | nil =>
      unfold Lib.itoa at h2
      split at h2
      · cases h2
      · exact absurd h2 (dec_ne _)
    | cons x l => simp
  · rw [rstr_frac h, List.length_append, List.length_cons, Lib.decDigits_length]; omega
theorem nDigits_shift (k : Nat) : ∀ {n : Nat}, 10 ^ k ≤ n → Lib.nDigits n = Lib.nDigits (n / 10 ^ k) + k := by
  induction k with
  | zero => intro n _; simp
  | succ k ih =>
    intro n h
    have h10 : 10 ≤ n := Nat.le_trans (Nat.le_self_pow (n := k + 1) (by omega) 10) h
    rw [Lib.nDigits_big (by omega), ih (n := n / 10) ((Nat.le_div_iff_mul_le (by omega)).2 (by rwa [← Nat.pow_succ])), Nat.div_div_eq_div_mul, show 10 * 10 ^ k = 10 ^ (k + 1) from (Nat.pow_succ').symm]
    omega
theorem big_low10 : 10 ^ 30102 ≤ Big := by
  rw [big_def]
  exact Nat.le_of_ble_eq_true (by kernel_rfl)
theorem pow_mono_10 {i j : Nat} (h : i ≤ j) : 10 ^ i ≤ 10 ^ j := Nat.pow_le_pow_right (by decide) h
theorem big_few {n : Nat} (h : Lib.nDigits n ≤ 30102) : n < Big := Nat.lt_of_lt_of_le (Lib.lt_pow_nDigits n) (Nat.le_trans (pow_mono_10 h) big_low10)
theorem abs_digits (z : Int) : Lib.nDigits z.natAbs ≤ (Lib.itoa z).length := by
  unfold Lib.itoa
  split
  · rw [List.length_cons, Lib.decDigits_length]; omega
  · rw [Lib.decDigits_length, show z.toNat = z.natAbs by omega]; exact Nat.le_refl _
theorem fits_len {q : Rat} (h : (rstr q).length ≤ 30102) : Fits q :=
  ⟨big_few (Nat.le_trans (abs_digits _) (Nat.le_trans (num_len q) h)), big_few (Nat.le_trans (den_len q) h)⟩
theorem dl_digits {n k : Nat} (h : Lib.nDigits n ≤ 9 * k) : dl n ≤ k := by
  refine dl_le ?_
  rw [pow_nine]
  exact Nat.lt_of_lt_of_le (Lib.lt_pow_nDigits n) (Nat.pow_le_pow_right (by omega) h)
end Go.Proofs.YtpheooheinfbgaaGreatDoor
end
section
set_option linter.unusedVariables false
set_option linter.unusedSimpArgs false
namespace Go.Proofs.YtpheooheinfbgaaGreatDoor
open Go Go.RowKit
section rules
variable {P : Program} {n : Nat} {Q : Post} {ρ : Fr} {w : World} {all rest : List Oper} {d d2 : Tmp} {ty ty2 ty3 ty4 : TypeId} {pos pos2 pos3 pos4 : String} {aft aft2 aft3 aft4 : Array Edge}
theorem r_new {T : TypeId} {s b : Nat} {z : Value} {agg : Bool} [ti : TyI P T s b z agg] {y : Operand} {us zs : List Value} {u : Value} (hz : z.cells = zs.toArray) (hy : ∀ g, ev (upd ρ d (.pointer (some ⟨g, 0, none⟩))) y = u) (hc : u.cells = us.toArray)
    (hl : us.length = s) (h1 : ∀ v ∈ us, v.oneCell' = true) (h : ∀ w' g, Ext w w' → w.heap.size ≤ g → Blk w' g T us → WpR P n all Q rest (upd ρ d (.pointer (some ⟨g, 0, none⟩))) w') :
    WpR P n all Q (⟨some d, .alloc T, ty, pos, aft, none⟩ :: ⟨none, .store T (.tmp d) y, ty2, pos2, aft2, none⟩ :: rest) ρ w := by
  refine r_alloc hz ?_
  intro w1 g k1 hg hgs
  have hzl : zs.length = s := by
    have := ti.zsize
    rw [hz] at this
    simpa using this
  refine r_store_all (us := us) (upd_same _ _ _) (hy g) hc hl hg hzl h1 ?_
  intro w2 k2 hg2
  exact h w2 g (k1.past k2 hgs) hgs hg2
end rules
end Go.Proofs.YtpheooheinfbgaaGreatDoor
end
section
set_option linter.unusedVariables false
set_option linter.unusedSimpArgs false
namespace Go.Proofs.YtpheooheinfbgaaGreatDoor
open Go Go.RowKit
theorem nDigits_top {a : Nat} (h : 0 < (dg a).length) : 0 < (dg a).getD ((dg a).length - 1) 0 ∧ Lib.nDigits a = 9 * ((dg a).length - 1) + Lib.nDigits ((dg a).getD ((dg a).length - 1) 0) ∧ (dg a).getD ((dg a).length - 1) 0 < 1000000000 := by
  have h1 : 1000000000 ^ ((dg a).length - 1) ≤ a := dl_low (a := a) h
  have h2 : a < 1000000000 ^ (dg a).length := lt_pow_dl a
  have h3 := dg_digit a ((dg a).length - 1)
  have hp : 0 < 1000000000 ^ ((dg a).length - 1) := Nat.pow_pos (by decide)
  have h4 : 1000000000 ^ (dg a).length = 1000000000 * 1000000000 ^ ((dg a).length - 1) := by
    rw [← Nat.pow_succ']
    congr 1
    omega
  rw [h4] at h2
  have h5 : a / 1000000000 ^ ((dg a).length - 1) < 1000000000 := (Nat.div_lt_iff_lt_mul hp).2 h2
  rw [Nat.mod_eq_of_lt h5] at h3
  rw [h3]
  refine ⟨Nat.div_pos h1 hp, ?_, h5⟩
  rw [pow_nine] at h1 ⊢
  rw [nDigits_shift _ h1]
  omega
theorem zlen_c {S : Nat → Prop} {w : World} {va : Value} {a : Nat} (ha : NatV S 3 .i64 w va a) (hla : dl a ≤ 16000000000000) :
    Gives Tryz.prog 102 [va] w fun v' w' => v' = .int .i64 (Lib.nDigits a : Nat) ∧ Ext w w' := by
  have hml : (dg a).length ≤ 16000000000000 := hla
  have hz := @dl_eq_zero a
  unfold dl at hz
  refine gives_of Tryz.func102 rfl rfl rfl ?_
  repeat (first | refine wp_seq_region ?_ | refine wp_seq_seq ?_ | refine wp_region ?_ | refine r_move (by conv => (lhs; whnf)) ?_ | refine r_assign (by conv => (lhs; whnf)) ?_ | refine r_nil ?_ | refine q_then ?_ | refine r_len (by conv => (lhs; whnf)) (by assumption) ?_ | refine r_eql rfl rfl ?_)
  try refine wp_seq_cond ?_
  refine wp_cond_dec rfl ?_ ?_ <;> intro h0
  · have ha0 : a = 0 := hz.1 (by omega)
    repeat (first | refine wp_seq_region ?_ | refine wp_region ?_ | refine r_assign (by conv => (lhs; whnf)) ?_ | refine r_nil ?_ | refine q_then ?_ | refine wp_ret ?_ | refine q_then_ret ?_)
    refine end_tmp rfl (by conv => (lhs; whnf)) ⟨?_, .refl⟩
    rw [ha0, Lib.nDigits_small (by decide)]
    rfl
  · obtain ⟨t1, t2, t3⟩ := nDigits_top (a := a) (by omega)
    repeat (first | refine r_mulI rfl rfl (by omega) (by omega) ?_ | refine r_index1 (i := (dg a).length - 1) (by conv => (lhs; whnf)) (by conv => (lhs; whnf)) (by omega) ha (by omega) ?_ | refine r_load_dig rfl ha (by omega) ?_ | refine wp_seq_region ?_ | refine wp_seq_seq ?_ | refine wp_region ?_ | refine r_move (by conv => (lhs; whnf)) ?_ | refine r_assign (by conv => (lhs; whnf)) ?_ | refine r_nil ?_ | refine q_then ?_ | refine wp_skip ?_ | refine r_len (by conv => (lhs; whnf)) (by assumption) ?_ | refine r_subI rfl rfl (by omega) (by omega) ?_)
    generalize (dg a).getD ((dg a).length - 1) 0 = t at *
    try refine wp_seq_block ?_
    refine wp_for [(3, 4), (18, 23)] (fun v ρ w' => w' = w ∧ ∃ m : Nat, ρ 4 = .int .i64 (v : Int) ∧ ρ 3 = .int .i64 (m : Int) ∧ v ≤ t ∧ m + (if v = 0 then 0 else Lib.nDigits v) = Lib.nDigits a ∧ m ≤ Lib.nDigits a) t ?_ ?_
    · exact ⟨rfl, 9 * ((dg a).length - 1), rfl, congrArg (Value.int .i64) (by omega), Nat.le_refl _, by rw [if_neg (by omega)]; omega, by omega⟩
    rintro v u w1 ⟨rfl, m, h4, h3, hvt, hm, hma⟩
    refine wp_learn 4 h4 (wp_learn 3 h3 ?_)
    clear h4 h3
    have hmax : Lib.nDigits a ≤ 9 * ((dg a).length - 1) + 9 := by have := nDigits_limb t3; omega
    repeat (first | refine wp_seq_region ?_ | refine wp_seq_seq ?_ | refine wp_region ?_ | refine r_move (by conv => (lhs; whnf)) ?_ | refine r_nil ?_ | refine q_then ?_ | refine r_gtr rfl rfl ?_)
    try refine wp_seq_cond ?_
    refine wp_cond_dec rfl ?_ ?_ <;> intro hc
    · have hv0 : 0 < v := by omega
      rw [if_neg (by omega)] at hm
      have hpos := Lib.nDigits_pos v
      repeat (first | refine wp_seq_bregion ?_ | refine wp_region ?_ | refine r_move (by conv => (lhs; whnf)) ?_ | refine r_assign (by conv => (lhs; whnf)) ?_ | refine r_nil ?_ | refine q_then ?_ | refine wp_block_region ?_ | refine wp_skip ?_ | refine r_addI rfl rfl (by omega) (by omega) ?_ | refine r_quoI rfl rfl (by omega) (by omega) (by omega) ?_)
      refine ⟨by (repeat (first | refine agree_upd rfl ?_ | exact agree_over | refine agree_sub rfl ?_ | exact agree_refl | refine agree_base rfl ?_ | refine agree_base' rfl ?_)), v / 10, by omega, rfl, m + 1, by rfl, congrArg (Value.int .i64) (by omega), by omega, ?_, by omega⟩
      by_cases h10 : v < 10
      · rw [if_pos (by omega)]
        rw [Lib.nDigits_small h10] at hm
        omega
      · rw [if_neg (by omega)]
        rw [Lib.nDigits_big h10] at hm
        omega
    · obtain rfl : v = 0 := by omega
      rw [if_pos rfl] at hm
      repeat (first | refine wp_seq_region ?_ | refine wp_region ?_ | refine r_move (by conv => (lhs; whnf)) ?_ | refine r_assign (by conv => (lhs; whnf)) ?_ | refine r_nil ?_ | refine q_then ?_ | refine wp_ret ?_ | refine wp_exit ?_)
      refine end_tmp rfl (by conv => (lhs; whnf)) ⟨congrArg (Value.int .i64) (by omega), .refl⟩
end Go.Proofs.YtpheooheinfbgaaGreatDoor
end
section
set_option linter.unusedVariables false
set_option linter.unusedSimpArgs false
namespace Go.Proofs.YtpheooheinfbgaaGreatDoor
open Go Go.RowKit
section rules
variable {P : Program} {n : Nat} {Q : Post} {ρ : Fr} {w : World} {all rest : List Oper} {d : Tmp} {ty : TypeId} {pos : String} {aft : Array Edge}
theorem size_str (l : List UInt8) : (⟨l.toArray⟩ : ByteArray).size = l.length := by show l.toArray.size = _; simp
theorem get_str (l : List UInt8) (i : Nat) : (⟨l.toArray⟩ : ByteArray)[i]? = l[i]? := by
  by_cases h : i < l.length
  · have h2 : i < (⟨l.toArray⟩ : ByteArray).size := by rw [size_str]; exact h
    rw [getElem?_pos _ i h2, List.getElem?_eq_getElem h]
    rfl
  · rw [getElem?_neg _ i (by rw [size_str]; exact h), List.getElem?_eq_none (by omega)]
theorem extract_str (l : List UInt8) (a b : Nat) (hb : b ≤ l.length) : (⟨l.toArray⟩ : ByteArray).extract a b = ⟨((l.take b).drop a).toArray⟩ := by
  apply ByteArray.ext
  rw [ByteArray.data_extract]
  simp [List.drop_take]
theorem r_indexS {t : TypeId} [st : StrT P t] {x ix : Operand} {l : List UInt8} {k : IntKind} {I : Int} {c : UInt8} (i : Nat) (hx : ev ρ x = strV l) (hi : ev ρ ix = .int k I) (hI : I = (i : Int)) (hc : l[i]? = some c)
    (h : WpR P n all Q rest (upd ρ d (.int .u8 (c.toNat : Nat))) w) : WpR P n all Q (⟨some d, .index t x ix, ty, pos, aft, none⟩ :: rest) ρ w := by
  subst hI
  refine r_val rfl rfl ?_ h
  have h1 : (⟨l.toArray⟩ : ByteArray)[i]? = some c := by rw [get_str]; exact hc
  simp [execOp, hx, hi, Instr.index, asIntOf, run_underlying st.und, h1]
theorem r_sliceS_low {t : TypeId} [st : StrT P t] {x lo : Operand} {l : List UInt8} {k : IntKind} {I : Int} (i : Nat) (hx : ev ρ x = strV l) (hi : ev ρ lo = .int k I) (hI : I = (i : Int)) (hl : i ≤ l.length)
    (h : WpR P n all Q rest (upd ρ d (strV (l.drop i))) w) : WpR P n all Q (⟨some d, .slice t x (some lo) none none, ty, pos, aft, none⟩ :: rest) ρ w := by
  subst hI
  refine r_val rfl rfl ?_ h
  have h1 := size_str l
  have h2 := extract_str l i l.length (Nat.le_refl _)
  rw [List.take_of_length_le (Nat.le_refl _)] at h2
  simp [execOp, hx, hi, Instr.sliceAt, Instr.slice, Instr.sliceBounds, Instr.sliceBound, asIntOf, run_underlying st.und, h1, hl, h2]
theorem r_sliceS_high {t : TypeId} [st : StrT P t] {x hi : Operand} {l : List UInt8} {k : IntKind} {I : Int} (i : Nat) (hx : ev ρ x = strV l) (hi' : ev ρ hi = .int k I) (hI : I = (i : Int)) (hl : i ≤ l.length)
    (h : WpR P n all Q rest (upd ρ d (strV (l.take i))) w) : WpR P n all Q (⟨some d, .slice t x none (some hi) none, ty, pos, aft, none⟩ :: rest) ρ w := by
  subst hI
  refine r_val rfl rfl ?_ h
  have h1 := size_str l
  have h2 := extract_str l 0 i hl
  rw [List.drop_zero] at h2
  simp [execOp, hx, hi', Instr.sliceAt, Instr.slice, Instr.sliceBounds, Instr.sliceBound, asIntOf, run_underlying st.und, h1, hl, h2]
end rules
end Go.Proofs.YtpheooheinfbgaaGreatDoor
end
section
set_option linter.unusedVariables false
set_option linter.unusedSimpArgs false
namespace Go.Proofs.YtpheooheinfbgaaGreatDoor
open Go Go.RowKit
theorem own_block {base : Nat} {T : TypeId} {w : World} {v : Value} {m : Nat} {xs : List Value} (h : Own base T 1 w v m xs) (hm : 0 < m) :
    ∃ g cap cs, v = .slice (some ⟨g, 0, none⟩) m cap ∧ base ≤ g ∧ Blk w g T cs ∧ cs.take m = xs ∧ m ≤ cs.length ∧ m ≤ cap ∧ cap ≤ maxLen ∧ cap = cs.length := by
  rcases h.2 with ⟨h1, h2⟩ | ⟨g, cap, cur, rfl, hb, hg, h1, h2, h3, h4⟩
  · omega
  · refine ⟨g, cap, cur.toList, rfl, hb, ?_, by simpa using h4, ?_, h1, h2, ?_⟩
    · unfold Blk
      rw [hg]
    · simp at h3 ⊢; omega
    · simp at h3 ⊢; omega
section rules
variable {P : Program} {n : Nat} {Q : Post} {ρ : Fr} {w : World} {all rest : List Oper} {d : Tmp} {ty : TypeId} {pos : String} {aft : Array Edge}
theorem r_slice_own {t T : TypeId} [st : SlT P t T] {b : Nat} {z : Value} {agg : Bool} [ti : TyI P T 1 b z agg] {x hi : Operand} {base : Nat} {v : Value} {m : Nat} {xs : List Value} {k : Nat} {i : Int}
    (hv : ev ρ x = v) (ho : Own base T 1 w v m xs) (hh : ev ρ hi = .int .i64 i) (hik : i = (k : Int)) (hk : k ≤ m) (hm : 0 < m)
    (h : ∀ v', Own base T 1 w v' k (xs.take k) → WpR P n all Q rest (upd ρ d v') w) : WpR P n all Q (⟨some d, .slice t x none (some hi) none, ty, pos, aft, none⟩ :: rest) ρ w := by
  subst hik
  obtain ⟨g, cap, cs, rfl, hb, hg, h1, h2, h3, h4, h5⟩ := own_block ho hm
  refine r_val (v := .slice (some ⟨g, 0, none⟩) k cap) rfl rfl ?_ (h _ ⟨by rw [← h1]; simp; omega, .inr ⟨g, cap, cs.toArray, rfl, hb, hg, by omega, h4, by simp; omega, ?_⟩⟩)
  · have hk2 : k ≤ cap := by omega
    simp [execOp, hv, hh, Instr.sliceAt, Instr.slice, run_underlying st.und, Instr.sliceBounds, Instr.sliceBound, asIntOf, hk2, ti.runSize w, Addr.add, show ¬ cap = 0 by omega]
  · rw [← h1, List.take_take]
    simp
    omega
end rules
theorem low_take {m v j : Nat} (h : j ≤ m) : (low m v).take j = low j v := by
  obtain ⟨k, rfl⟩ : ∃ k, m = j + k := ⟨m - j, by omega⟩
  rw [low_append, List.take_left' (low_length j v)]
abbrev byt (l : List UInt8) : List Value := Lib.byteCells l
theorem byt_append (a b : List UInt8) : byt (a ++ b) = byt a ++ byt b := by simp [Lib.byteCells]
theorem byt_length (a : List UInt8) : (byt a).length = a.length := by simp [Lib.byteCells]
theorem byt_take (a : List UInt8) (k : Nat) : (byt a).take k = byt (a.take k) := by simp [Lib.byteCells, List.map_take]
theorem byt_digit {x : Nat} (h : x < 10) : Value.int .u8 (48 + (x : Int)) = .int .u8 ((UInt8.ofNat (48 + x)).toNat : Int) := by
  congr 1
  rw [UInt8.toNat_ofNat']
  omega
theorem itoa_rev (z : Int) : (Lib.itoa z).reverse = low (Lib.nDigits z.natAbs) z.natAbs ++ (if z < 0 then [45] else []) := by
  unfold Lib.itoa
  split
  · rw [← dec_low]; simp
  · rw [← dec_low, show z.natAbs = z.toNat by omega]; simp
set_option maxHeartbeats 2000000 in
theorem zstr_c {S : Nat → Prop} {w : World} {v : Value} {z : Int} (h : ZV S w v z) (hl : zl z ≤ 1099511627000) :
    Gives Tryz.prog 81 [v] w fun v' w' => v' = strV (Lib.itoa z) ∧ Ext w w' := by
  obtain ⟨m, rfl, hm⟩ := h
  obtain ⟨n, hn⟩ : ∃ n, n = z.natAbs := ⟨_, rfl⟩
  rw [← hn] at hm
  have hln : (dg n).length ≤ 1099511627000 := by rw [hn]; exact hl
  have hdl : (dg n).length = dl n := rfl
  refine gives_of Tryz.func81 rfl rfl rfl ?_
  repeat (first | refine wp_seq_region ?_ | refine wp_region ?_)
  refine r_box (cs := [.bool (tst (z < 0)), m]) (by conv => (lhs; whnf)) rfl ?_
  intro w1 g k1 hg hgs
  have hm1 := hm.to k1
  have hgl := hg.lt
  clear hm
  repeat (first | refine r_load_blk rfl hg rfl ?_ | refine wp_seq_region ?_ | refine wp_seq_seq ?_ | refine wp_region ?_ | refine r_assign (by conv => (lhs; whnf)) ?_ | refine r_nil ?_ | refine q_then ?_ | refine r_len (by conv => (lhs; whnf)) (by assumption) ?_ | refine r_eql rfl rfl ?_ | refine r_field rfl ?_)
  try refine wp_seq_cond ?_
  refine wp_cond_dec rfl ?_ ?_ <;> intro hc
  · repeat (first | refine wp_seq_region ?_ | refine wp_region ?_ | refine r_assign (by conv => (lhs; whnf)) ?_ | refine r_nil ?_ | refine q_then ?_ | refine wp_ret ?_ | refine q_then_ret ?_)
    refine end_tmp rfl (by conv => (lhs; whnf)) ⟨?_, k1⟩
    have h0 : n = 0 := dl_eq_zero.1 (by omega)
    have hz : z = 0 := by omega
    subst hz
    unfold Lib.itoa
    rw [if_neg (by decide), show (0 : Int).toNat = 0 from rfl, Lib.decDigits_one (by decide)]
    rfl
  · have hn0 : 0 < n := Nat.pos_of_ne_zero fun e => hc (by have := dl_eq_zero.2 e; omega)
    have hD := nDigits_dl hn0
    repeat (first | refine wp_seq_region ?_ | refine wp_seq_seq ?_ | refine wp_region ?_ | refine r_assign (by conv => (lhs; whnf)) ?_ | refine r_nil ?_ | refine q_then ?_ | refine wp_skip ?_)
    try refine wp_seq_block ?_
    refine wp_for [(3, 6), (14, 38)] (fun k ρ w' => ∃ (i : Nat) (v : Value), k + i = (dg n).length ∧ ρ 4 = .int .i64 (i : Int) ∧ ρ 3 = v ∧ Own w1.heap.size 5 1 w' v (9 * i) (byt (low (9 * i) n)) ∧ Ext w1 w') (dg n).length
      ⟨0, _, by omega, rfl, rfl, own_nil, .refl⟩ ?_
    · rintro k u w2 ⟨i, v, hki, h4, h3, ho, k2⟩
      refine wp_learn 4 h4 (wp_learn 3 h3 ?_)
      clear h4 h3
      have hg2 := hg.to k2
      have hm2 := hm1.to k2
      have hdd := dg_lt n i
      repeat (first | refine r_load_blk rfl hg2 rfl ?_ | refine wp_seq_region ?_ | refine wp_seq_seq ?_ | refine wp_region ?_ | refine r_move (by conv => (lhs; whnf)) ?_ | refine r_nil ?_ | refine q_then ?_ | refine r_len (by conv => (lhs; whnf)) (by assumption) ?_ | refine r_lss rfl rfl ?_ | refine r_field rfl ?_)
      try refine wp_seq_cond ?_
      refine wp_cond_dec rfl ?_ ?_ <;> intro hlt
      · repeat (first | refine r_load_blk rfl hg2 rfl ?_ | refine r_index1 (i := i) (by conv => (lhs; whnf)) rfl rfl hm2 (by omega) ?_ | refine r_load_dig rfl hm2 (by omega) ?_ | refine wp_seq_region ?_ | refine wp_seq_bseq ?_ | refine wp_region ?_ | refine r_move (by conv => (lhs; whnf)) ?_ | refine r_assign (by conv => (lhs; whnf)) ?_ | refine r_nil ?_ | refine q_then ?_ | refine wp_block_seq ?_ | refine wp_skip ?_ | refine r_field rfl ?_)
        obtain ⟨d, hd⟩ : ∃ d, d = (dg n).getD i 0 := ⟨_, rfl⟩
        rw [← hd] at hdd ⊢
        try refine wp_seq_block ?_
        refine wp_for [(3, 3), (5, 6), (26, 38)] (fun k ρ w' => ∃ (j : Nat) (v : Value), k + j = 9 ∧ ρ 6 = .int .i64 (j : Int) ∧ ρ 5 = .int .i64 ((d / 10 ^ j : Nat) : Int) ∧ ρ 3 = v ∧ Own w1.heap.size 5 1 w' v (9 * i + j) (byt (low (9 * i) n ++ low j d)) ∧ Ext w1 w') 9
          ⟨0, v, by omega, rfl, by simp; rfl, rfl, by simpa [low] using ho, k2⟩ ?_
        rintro k' u2 w3 ⟨j, v3, hkj, h6, h5, h3, ho3, k3⟩
        refine wp_learn 6 h6 (wp_learn 5 h5 (wp_learn 3 h3 ?_))
        clear h6 h5 h3
        have hdj : d / 10 ^ j ≤ d := Nat.div_le_self ..
        have hdj2 : d / 10 ^ j / 10 = d / 10 ^ (j + 1) := by rw [Nat.div_div_eq_div_mul, Nat.pow_succ]
        have hls := low_succ j d
        obtain ⟨y, hy⟩ : ∃ y, y = d / 10 ^ j := ⟨_, rfl⟩
        rw [← hy] at hdj hdj2 hls ⊢
        repeat (first | refine wp_seq_region ?_ | refine wp_seq_seq ?_ | refine wp_region ?_ | refine r_move (by conv => (lhs; whnf)) ?_ | refine r_nil ?_ | refine q_then ?_ | refine r_lss rfl rfl ?_)
        try refine wp_seq_cond ?_
        refine wp_cond_dec rfl ?_ ?_ <;> intro hj9
        · repeat (first | refine wp_seq_region ?_ | refine wp_seq_bseq ?_ | refine wp_region ?_ | refine r_move (by conv => (lhs; whnf)) ?_ | refine wp_block_seq ?_ | refine wp_skip ?_ | refine r_addI rfl rfl (by omega) (by omega) ?_ | refine r_remP rfl rfl (by omega) (by omega) ?_)
          refine r_conv rfl (wrap_u8 (by omega) (by omega)) ?_
          have hb : Value.int .u8 (48 + (y : Int) % 10) = .int .u8 ((UInt8.ofNat (48 + y % 10)).toNat : Int) := byt_digit (x := y % 10) (by omega)
          refine r_lit1 rfl rfl ?_
          intro w4 g4 k4 hg4 hgs4
          rw [hb] at hg4
          refine r_append1 (by conv => (lhs; whnf)) (own_to ho3 k4) rfl hg4 (by omega) rfl (fun u hu => by rw [List.mem_singleton.1 hu]; rfl) (by unfold maxLen; omega) (by omega) (by have := k3.size; have := k4.size; omega) ?_
          intro v5 w5 ho5 k5
          repeat (first | refine wp_region ?_ | refine r_move (by conv => (lhs; whnf)) ?_ | refine r_assign (by conv => (lhs; whnf)) ?_ | refine r_nil ?_ | refine q_then ?_ | refine r_addI rfl rfl (by omega) (by omega) ?_ | refine r_quoI rfl rfl (by omega) (by omega) (by omega) ?_)
          refine ⟨by (repeat (first | refine agree_upd rfl ?_ | exact agree_over | refine agree_sub rfl ?_ | exact agree_refl | refine agree_base rfl ?_ | refine agree_base' rfl ?_)), 8 - j, by omega, j + 1, v5, by omega, rfl, ?_, rfl, ?_, ?_⟩
          · rw [← hdj2]; exact congrArg (Value.int .i64) (by omega)
          · rw [hls, ← List.append_assoc, byt_append]
            exact ho5
          · exact Keeps.later (k3.trans k4) k5 fun i hi _ e => by have := (ho3.lt i e.symm).1; omega
        · have hj : j = 9 := by omega
          subst hj
          repeat (first | refine wp_region ?_ | refine r_move (by conv => (lhs; whnf)) ?_ | refine r_assign (by conv => (lhs; whnf)) ?_ | refine r_nil ?_ | refine q_then ?_ | refine wp_exit ?_ | refine r_addI rfl rfl (by omega) (by omega) ?_)
          refine ⟨by (repeat (first | refine agree_upd rfl ?_ | exact agree_over | refine agree_sub rfl ?_ | exact agree_refl | refine agree_base rfl ?_ | refine agree_base' rfl ?_)), k - 1, by omega, i + 1, v3, by omega, rfl, rfl, ?_, k3⟩
          rw [low_limb, ← hd]
          exact ho3
      · have hi : i = (dg n).length := by omega
        subst hi
        rw [hdl] at ho
        repeat (first | refine q_then ?_ | refine wp_exit ?_ | refine q_then_exit ?_ | refine q_block_hit rfl ?_)
        try refine wp_seq_block ?_
        refine wp_for ((3, 3) :: [(3, 3), (39, 50)]) (fun k ρ w' => w' = w2 ∧ ∃ (v : Value), ρ 3 = v ∧ Lib.nDigits n ≤ k ∧ k ≤ 9 * dl n ∧ Own w1.heap.size 5 1 w2 v k (byt (low k n))) (9 * dl n)
          ⟨rfl, v, rfl, hD, Nat.le_refl _, ho⟩ ?_
        rintro M u3 w3 ⟨rfl, v3, h3, hMl, hMh, ho3⟩
        refine wp_learn 3 h3 ?_
        clear h3 ho
        have hDp := Lib.nDigits_pos n
        have hr3 : Row All 5 1 w3 v3 M (byt (low M n)) := Row.of_own ho3 Up.all
        have hget : (byt (low M n))[M - 1]? = some (.int .u8 (48 + ((n / 10 ^ (M - 1) % 10 : Nat) : Int))) := by
          rw [byt_digit (by omega)]
          unfold byt Lib.byteCells
          rw [List.getElem?_map, low_get (by omega)]
          rfl
        repeat (first | refine r_len (by conv => (lhs; whnf)) hr3 ?_ | refine r_index1 (i := M - 1) (by conv => (lhs; whnf)) rfl (by omega) hr3 (by omega) ?_ | refine wp_seq_region ?_ | refine wp_seq_seq ?_ | refine wp_region ?_ | refine r_move (by conv => (lhs; whnf)) ?_ | refine r_subI rfl rfl (by omega) (by omega) ?_)
        refine r_load_row rfl hr3 hget ?_
        repeat (first | refine r_nil ?_ | refine q_then ?_ | refine r_eql rfl rfl ?_)
        try refine wp_seq_cond ?_
        refine wp_cond_dec rfl ?_ ?_ <;> intro hz
        · have hMD : Lib.nDigits n ≤ M - 1 := by
            rcases Nat.lt_or_ge (Lib.nDigits n) M with h | h
            · omega
            · exfalso
              have := high_digit hn0
              rw [show Lib.nDigits n - 1 = M - 1 by omega] at this
              omega
          repeat (first | refine r_len (by conv => (lhs; whnf)) hr3 ?_ | refine wp_region ?_ | refine r_move (by conv => (lhs; whnf)) ?_ | refine q_then ?_ | refine wp_block_region ?_ | refine wp_skip ?_ | refine r_subI rfl rfl (by omega) (by omega) ?_)
          refine r_slice_own (k := M - 1) (by conv => (lhs; whnf)) ho3 rfl (by omega) (by omega) (by omega) ?_
          intro v4 ho4
          rw [byt_take, low_take (by omega)] at ho4
          repeat (first | refine r_assign (by conv => (lhs; whnf)) ?_ | refine r_nil ?_ | refine q_then ?_ | refine q_block ?_)
          exact ⟨by (repeat (first | refine agree_upd rfl ?_ | exact agree_over | refine agree_sub rfl ?_ | exact agree_refl | refine agree_base rfl ?_ | refine agree_base' rfl ?_)), M - 1, by omega, rfl, v4, rfl, hMD, by omega, ho4⟩
        · have hMD : M = Lib.nDigits n := by
            rcases Nat.lt_or_ge (Lib.nDigits n) M with h | h
            · exact absurd (by have := digit_above (n := n) (k := M - 1) (by omega); omega) hz
            · omega
          subst hMD
          have hg3 := hg.to k2
          have hrev := itoa_rev z
          rw [← hn] at hrev
          repeat (first | refine r_load_blk rfl hg3 rfl ?_ | refine wp_seq_region ?_ | refine wp_seq_seq ?_ | refine wp_region ?_ | refine r_nil ?_ | refine q_then ?_ | refine wp_exit ?_ | refine r_field rfl ?_)
          first | refine wp_seq_cond ?_ | refine wp_thenB ?_ | refine wp_thenBB ?_ | skip
          refine wp_join [(3, 3), (53, 55)] (fun ρ w' => ∃ v, ρ 3 = v ∧ Own w1.heap.size 5 1 w' v (Lib.itoa z).length (byt (Lib.itoa z).reverse) ∧ Ext w1 w') rfl ?_ ?_ ?_
          · intro hneg
            rw [if_pos hneg] at hrev
            have hlen : (Lib.itoa z).length = Lib.nDigits n + 1 := by
              have := congrArg List.length hrev
              simpa [low_length] using this
            rw [hrev, hlen, byt_append]
            repeat (first | refine wp_region ?_ | refine r_move (by conv => (lhs; whnf)) ?_)
            refine r_lit1 rfl rfl ?_
            intro w4 g4 k4 hg4 hgs4
            refine r_append1 (by conv => (lhs; whnf)) (own_to ho3 k4) rfl hg4 (by omega) rfl (fun u hu => by rw [List.mem_singleton.1 hu]; rfl) (by unfold maxLen; omega) (by omega) (by have := k2.size; have := k4.size; omega) ?_
            intro v5 w5 ho5 k5
            repeat (first | refine r_assign (by conv => (lhs; whnf)) ?_ | refine r_nil ?_ | refine q_then ?_)
            refine ⟨by (repeat (first | refine agree_upd rfl ?_ | exact agree_over | refine agree_sub rfl ?_ | exact agree_refl | refine agree_base rfl ?_ | refine agree_base' rfl ?_)), v5, rfl, ho5, ?_⟩
            exact Keeps.later (k2.trans k4) k5 fun i hi _ e => by have := (ho3.lt i e.symm).1; omega
          · intro hneg
            rw [if_neg hneg, List.append_nil] at hrev
            have hlen : (Lib.itoa z).length = Lib.nDigits n := by
              have := congrArg List.length hrev
              simpa [low_length] using this
            rw [hrev, hlen]
            repeat (first | refine q_then ?_ | refine wp_skip ?_)
            exact ⟨by (repeat (first | refine agree_upd rfl ?_ | exact agree_over | refine agree_sub rfl ?_ | exact agree_refl | refine agree_base rfl ?_ | refine agree_base' rfl ?_)), v3, rfl, ho3, k2⟩
          rintro u4 w4 ⟨v4, h4, ho4, k4⟩
          refine wp_learn 3 h4 ?_
          clear h4 ho3 hr3 hget
          obtain ⟨X, hX⟩ : ∃ X, X = Lib.itoa z := ⟨_, rfl⟩
          rw [← hX] at ho4 ⊢
          have hX0 : 0 < X.length := by
            have := congrArg List.length hrev
            rw [← hX] at this
            simp [low_length] at this
            omega
          have hXb : X.length ≤ 9 * dl n + 1 := by
            have := congrArg List.length hrev
            rw [← hX] at this
            simp [low_length] at this
            split at this <;> simp at this <;> omega
          obtain ⟨gb, cap, cs, rfl, hgb, hb4, htk, hcl, hcap, hmx, hce⟩ := own_block ho4 hX0
          have hc0 : ∀ p, p < X.length → cs[p]? = (byt X)[X.length - 1 - p]? := by
            intro p hp
            have h1 : cs[p]? = (cs.take X.length)[p]? := by rw [List.getElem?_take, if_pos hp]
            rw [h1, htk]
            unfold byt Lib.byteCells
            rw [List.getElem?_map, List.getElem?_map, List.getElem?_reverse hp]
          repeat (first | refine wp_seq_region ?_ | refine wp_seq_seq ?_ | refine wp_region ?_ | refine r_move (by conv => (lhs; whnf)) ?_ | refine r_assign (by conv => (lhs; whnf)) ?_ | refine r_nil ?_ | refine q_then ?_ | refine r_len_sl rfl ?_ | refine r_subI rfl rfl (by omega) (by omega) ?_)
          try refine wp_seq_block ?_
          refine wp_for [(7, 9), (59, 80)] (fun k ρ w' => ∃ (i : Nat) (cs' : List Value), k + i = X.length ∧ ρ 7 = .int .i64 (i : Int) ∧ ρ 8 = .int .i64 ((X.length : Int) - 1 - i) ∧ 2 * i ≤ X.length + 1 ∧ cs'.length = cs.length ∧
              (∀ p, p < X.length → cs'[p]? = if p < i ∨ X.length ≤ p + i then (byt X)[p]? else (byt X)[X.length - 1 - p]?) ∧ Blk w' gb 5 cs' ∧ Keeps (fun k => k ≠ gb) w4 w') X.length
            ⟨0, cs, by omega, rfl, congrArg (Value.int .i64) (by omega), by omega, rfl, fun p hp => by rw [if_neg (by omega)]; exact hc0 p hp, hb4, .refl⟩ ?_
          rintro k5 u5 w5 ⟨i, cs', hki5, h7, h8, hii, hcl', hcs', hb5, k5b⟩
          refine wp_learn 7 h7 (wp_learn 8 h8 ?_)
          clear h7 h8 hb4
          repeat (first | refine wp_seq_region ?_ | refine wp_seq_seq ?_ | refine wp_region ?_ | refine r_move (by conv => (lhs; whnf)) ?_ | refine r_nil ?_ | refine q_then ?_ | refine r_lss rfl rfl ?_)
          try refine wp_seq_cond ?_
          refine wp_cond_dec rfl ?_ ?_ <;> intro hij
          · obtain ⟨j, hj⟩ : ∃ j, j + i + 1 = X.length := ⟨X.length - 1 - i, by omega⟩
            have hxl : (byt X).length = X.length := byt_length X
            have hei : cs'[i]? = some ((byt X)[j]'(by omega)) := by
              rw [hcs' i (by omega), if_neg (by omega), show X.length - 1 - i = j by omega, List.getElem?_eq_getElem]
            have hej : cs'[j]? = some ((byt X)[i]'(by omega)) := by
              rw [hcs' j (by omega), if_neg (by omega), show X.length - 1 - j = i by omega, List.getElem?_eq_getElem]
            have one : ∀ q (hq : q < (byt X).length), ((byt X)[q]).oneCell' = true := by
              intro q hq
              simp [Lib.byteCells, Value.oneCell']
            repeat (first | refine r_index_own (i := i) rfl rfl rfl (by omega) ?_ | refine wp_seq_region ?_ | refine wp_seq_bseq ?_ | refine wp_region ?_ | refine r_move (by conv => (lhs; whnf)) ?_ | refine wp_block_seq ?_ | refine wp_skip ?_)
            refine r_load_blk rfl hb5 hei ?_
            repeat (first | refine r_index_own (i := i) rfl rfl rfl (by omega) ?_ | refine r_index_own (i := j) rfl rfl (by omega) (by omega) ?_ | refine r_load_blk rfl hb5 hej ?_ | refine wp_seq_region ?_ | refine wp_region ?_ | refine r_move (by conv => (lhs; whnf)) ?_ | refine r_assign (by conv => (lhs; whnf)) ?_ | refine r_nil ?_)
            refine r_store rfl rfl hb5 (by omega) (one _ _) ?_
            intro w6 k6 hb6
            repeat (first | refine r_index_own (i := j) rfl rfl (by omega) (by omega) ?_ | refine wp_region ?_ | refine r_move (by conv => (lhs; whnf)) ?_ | refine r_nil ?_)
            refine r_store rfl rfl hb6 (by simp; omega) (one _ _) ?_
            intro w7 k7 hb7
            repeat (first | refine wp_region ?_ | refine r_move (by conv => (lhs; whnf)) ?_ | refine r_assign (by conv => (lhs; whnf)) ?_ | refine r_nil ?_ | refine q_then ?_ | refine r_addI rfl rfl (by omega) (by omega) ?_ | refine r_subI rfl rfl (by omega) (by omega) ?_)
            refine ⟨by (repeat (first | refine agree_upd rfl ?_ | exact agree_over | refine agree_sub rfl ?_ | exact agree_refl | refine agree_base rfl ?_ | refine agree_base' rfl ?_)), k5 - 1, by omega, i + 1, _, by omega, rfl, congrArg (Value.int .i64) (by omega), by omega, by simpa using hcl', fun p hp => ?_, hb7, (k5b.trans k6).trans k7⟩
            by_cases e1 : p = j
            · subst e1
              rw [List.getElem?_set_self (by simp; omega), if_pos (by omega)]
              exact (List.getElem?_eq_getElem (by omega)).symm
            · rw [List.getElem?_set_ne (by omega)]
              by_cases e2 : p = i
              · subst e2
                rw [List.getElem?_set_self (by omega), if_pos (by omega)]
                exact (List.getElem?_eq_getElem (by omega)).symm
              · rw [List.getElem?_set_ne (by omega), hcs' p hp]
                by_cases e3 : p < i ∨ X.length ≤ p + i
                · rw [if_pos e3, if_pos (by omega)]
                · rw [if_neg e3, if_neg (by omega)]
          · repeat (first | refine wp_seq_region ?_ | refine wp_region ?_ | refine r_move (by conv => (lhs; whnf)) ?_ | refine wp_exit ?_)
            refine r_convw (v := strV X) (by conv => (lhs; whnf)) (run_convert_bytes_back _ _ _ 5 _ _ X (inferInstance : SlT Tryz.prog _ 5).und (inferInstance : IntT Tryz.prog 5 _).und (inferInstance : StrT Tryz.prog _).und ?_) ?_
            · intro p hp
              have h9 := hcs' p hp
              have h10 : cs'[p]? = (byt X)[p]? := by
                rw [h9]
                split
                · rfl
                · congr 1; omega
              have ha : (⟨gb, 0, none⟩ : Addr).add p = ⟨gb, p, none⟩ := by
                unfold Addr.add
                split <;> simp_all
              rw [ha]
              refine hb5.cell ?_
              rw [h10]
              unfold byt Lib.byteCells
              rw [List.getElem?_map, List.getElem?_eq_getElem hp]
              rfl
            · repeat (first | refine r_assign (by conv => (lhs; whnf)) ?_ | refine r_nil ?_ | refine q_then ?_ | refine wp_ret ?_)
              refine end_tmp rfl (by conv => (lhs; whnf)) ⟨rfl, ?_⟩
              exact k1.trans (Keeps.later k4 k5b fun i hi _ => by omega)
end Go.Proofs.YtpheooheinfbgaaGreatDoor
end
section
set_option linter.unusedVariables false
set_option linter.unusedSimpArgs false
namespace Go.Proofs.YtpheooheinfbgaaGreatDoor
open Go Go.RowKit
theorem itoa_nat (n : Nat) : Lib.itoa (n : Int) = Lib.decDigits n := by
  unfold Lib.itoa
  rw [if_neg (by omega), show ((n : Int)).toNat = n from rfl]
theorem zform_c {S : Nat → Prop} {w : World} {v : Value} {q : Rat} (hS : Up S w) (h : QV S w v q) (hl : rl q 400000000000) :
    Gives Tryz.prog 48 [v] w fun v' w' => v' = strV (rstr q) ∧ Ext w w' := by
  obtain ⟨m, b, rfl, hm, hb⟩ := h
  obtain ⟨hl1, hl2⟩ := hl
  have hz : zl (q.den : Int) ≤ 400000000000 := by unfold zl; rw [Int.natAbs_natCast]; exact hl2
  have hn1 := nDigits_le_dl _ hl1
  have hn2 := nDigits_le_dl _ hl2
  have hi := itoa_length q.num
  refine gives_of Tryz.func48 rfl rfl rfl ?_
  repeat (first | refine wp_seq_region ?_ | refine wp_region ?_)
  refine r_box (cs := [.bool (tst (q.num < 0)), m, .bool (tst ((q.den : Int) < 0)), b]) (by conv => (lhs; whnf)) rfl ?_
  intro w1 g k1 hg hgs
  replace hm := hm.to k1
  replace hb := hb.to k1
  replace hS := hS.to k1
  repeat (first | refine wp_seq_region ?_ | refine wp_seq_seq ?_ | refine r_assign (by conv => (lhs; whnf)) ?_ | refine r_nil ?_)
  refine wp_drawn 4 (by kernel_rfl) (by kernel_rfl) ?_
  apply ob_step
  · intro x w1 k1 hd
    refine r_field rfl ?_
    refine r_nil ?_
    exact ob_eq
  apply ob_step
  · intro x w1 k1 hd
    refine r_load_part rfl (hg.to k1) rfl rfl ?_
    refine r_nil ?_
    exact ob_eq
  refine ob_step (e := zE S 1) ?_ ?_
  · intro x w1 k1 hd
    refine r_call (zof_c (z := 1) (hS.to k1) (by decide) (by decide)) rfl ?_
    rintro v2 w2 ⟨k2, h2⟩
    exact r_nil (ob_of k2 h2)
  refine ob_step (e := Ent.eq (.int .i64 ((q.den : Int) - 1).sign)) ?_ ?_
  · intro x w1 k1 hd
    refine r_call (zcmp_c (a := (q.den : Int)) (b := 1) (hS.to k1) ⟨b, rfl, hb.to k1⟩ hd.1 (by omega) (Nat.le_trans (dl_le (k := 1) (by decide)) (by decide))) rfl ?_
    rintro v2 w2 ⟨rfl, k2⟩
    exact r_nil (ob_eq_to k2)
  refine ob_nil (ob_end ?_)
  intro x w2 k2 _
  replace hm := hm.to k2
  replace hb := hb.to k2
  replace hg := hg.to k2
  have k := k1.trans k2
  have hd1 : q.den = 1 ↔ ((q.den : Int) - 1).sign = 0 := by rw [Int.sign_eq_zero_iff_zero]; omega
  clear k1 k2
  repeat (first | refine r_nil ?_ | refine q_then ?_ | refine r_eql rfl rfl ?_)
  try refine wp_seq_cond ?_
  refine wp_cond_dec rfl ?_ ?_ <;> intro hc
  · repeat (first | refine r_load_part rfl hg rfl rfl ?_ | refine wp_seq_region ?_ | refine wp_region ?_ | refine r_field rfl ?_)
    refine r_call (zstr_c (z := q.num) ⟨m, rfl, hm⟩ (by unfold zl; omega)) rfl ?_
    rintro v3 w3 ⟨rfl, k3⟩
    repeat (first | refine r_assign (by conv => (lhs; whnf)) ?_ | refine r_nil ?_ | refine q_then ?_ | refine wp_ret ?_ | refine q_then_ret ?_)
    refine end_tmp rfl (by conv => (lhs; whnf)) ⟨?_, k.trans k3⟩
    unfold rstr
    rw [if_pos (hd1.2 hc), List.append_nil]
  · repeat (first | refine wp_seq_region ?_ | refine wp_skip ?_)
    refine wp_drawn 8 (by kernel_rfl) (by kernel_rfl) ?_
    apply ob_step
    · intro x w1 k1 hd
      refine r_field rfl ?_
      refine r_nil ?_
      exact ob_eq
    apply ob_step
    · intro x w1 k1 hd
      refine r_load_part rfl (hg.to k1) rfl rfl ?_
      refine r_nil ?_
      exact ob_eq
    refine ob_step (e := Ent.eq (strV (Lib.itoa q.num))) ?_ ?_
    · intro x w1 k1 hd
      refine r_call (zstr_c (z := q.num) ⟨m, rfl, hm.to k1⟩ (by unfold zl; omega)) rfl ?_
      rintro v2 w2 ⟨rfl, k2⟩
      exact r_nil (ob_eq_to k2)
    apply ob_step
    · intro x w1 k1 hd
      refine r_cat (b := [47]) rfl rfl (by simp; omega) ?_
      refine r_nil ?_
      exact ob_eq
    apply ob_step
    · intro x w1 k1 hd
      refine r_field rfl ?_
      refine r_nil ?_
      exact ob_eq
    apply ob_step
    · intro x w1 k1 hd
      refine r_load_part rfl (hg.to k1) rfl rfl ?_
      refine r_nil ?_
      exact ob_eq
    refine ob_step (e := Ent.eq (strV (Lib.itoa (q.den : Int)))) ?_ ?_
    · intro x w1 k1 hd
      refine r_call (zstr_c (z := (q.den : Int)) ⟨b, rfl, hb.to k1⟩ (by omega)) rfl ?_
      rintro v2 w2 ⟨rfl, k2⟩
      exact r_nil (ob_eq_to k2)
    apply ob_step
    · intro x w1 k1 hd
      refine r_cat rfl rfl (by rw [itoa_nat, Lib.decDigits_length]; simp; omega) ?_
      refine r_nil ?_
      exact ob_eq
    refine ob_nil (ob_end ?_)
    intro x3 w3 k3 _
    repeat (first | refine r_assign (by conv => (lhs; whnf)) ?_ | refine r_nil ?_ | refine q_then ?_ | refine wp_ret ?_)
    refine end_tmp rfl (by conv => (lhs; whnf)) ⟨?_, k.trans k3⟩
    unfold rstr
    rw [if_neg (fun h => hc (hd1.1 h)), itoa_nat, List.append_assoc]
    rfl
end Go.Proofs.YtpheooheinfbgaaGreatDoor
end
section
set_option linter.unusedVariables false
set_option linter.unusedSimpArgs false
namespace Go.Proofs.YtpheooheinfbgaaGreatDoor
open Go Go.RowKit
abbrev tenDigits : List UInt8 := [48, 49, 50, 51, 52, 53, 54, 55, 56, 57]
theorem ten_contains (c : UInt8) : tenDigits.contains c = true ↔ Dig c := by
  have h := c.toNat_lt
  constructor
  · intro h
    simp only [List.contains_eq_mem, decide_eq_true_eq, List.mem_cons, List.not_mem_nil, or_false] at h
    rcases h with rfl | rfl | rfl | rfl | rfl | rfl | rfl | rfl | rfl | rfl <;> exact ⟨by decide, by decide⟩
  · rintro ⟨h1, h2⟩
    simp only [List.contains_eq_mem, decide_eq_true_eq, List.mem_cons, List.not_mem_nil, or_false]
    have e : ∀ k : UInt8, c.toNat = k.toNat → c = k := fun k hk => UInt8.toNat_inj.1 hk
    have : c.toNat = 48 ∨ c.toNat = 49 ∨ c.toNat = 50 ∨ c.toNat = 51 ∨ c.toNat = 52 ∨ c.toNat = 53 ∨ c.toNat = 54 ∨ c.toNat = 55 ∨ c.toNat = 56 ∨ c.toNat = 57 := by omega
    rcases this with h | h | h | h | h | h | h | h | h | h
    · exact .inl (e 48 h)
    · exact .inr (.inl (e 49 h))
    · exact .inr (.inr (.inl (e 50 h)))
    · exact .inr (.inr (.inr (.inl (e 51 h))))
    · exact .inr (.inr (.inr (.inr (.inl (e 52 h)))))
    · exact .inr (.inr (.inr (.inr (.inr (.inl (e 53 h))))))
    · exact .inr (.inr (.inr (.inr (.inr (.inr (.inl (e 54 h)))))))
    · exact .inr (.inr (.inr (.inr (.inr (.inr (.inr (.inl (e 55 h))))))))
    · exact .inr (.inr (.inr (.inr (.inr (.inr (.inr (.inr (.inl (e 56 h)))))))))
    · exact .inr (.inr (.inr (.inr (.inr (.inr (.inr (.inr (.inr (e 57 h)))))))))
theorem dropW_nil {p : UInt8 → Bool} : ∀ {l : List UInt8}, l.dropWhile p = [] ↔ ∀ x ∈ l, p x = true
  | [] => by simp
  | c :: r => by
    rw [List.dropWhile_cons]
    split
    · rename_i h
      rw [dropW_nil]
      simp [h]
    · rename_i h
      constructor
      · intro e; cases e
      · intro e; exact absurd (e c (List.mem_cons_self ..)) h
theorem trim_nil (s : List UInt8) : Lib.trimS s tenDigits = [] ↔ ∀ c ∈ s, Dig c := by
  unfold Lib.trimS Lib.trimLeftS Lib.trimRightS
  rw [dropW_nil]
  constructor
  · intro h
    have h2 : ∀ c ∈ s.reverse.dropWhile (tenDigits.contains ·), Dig c := fun c hc => (ten_contains c).1 (h c (List.mem_reverse.2 hc))
    have h3 : s.reverse.dropWhile (tenDigits.contains ·) = [] := by
      cases hd : s.reverse.dropWhile (tenDigits.contains ·) with
      | nil => rfl
      | cons c r =>
        exfalso
        have h4 : tenDigits.contains c = true := (ten_contains c).2 (h2 c (by rw [hd]; exact List.mem_cons_self ..))
        have h5 := List.head?_dropWhile_not (tenDigits.contains ·) s.reverse
        rw [hd] at h5
        simp only [List.head?_cons] at h5
        rw [h4] at h5
        cases h5
    intro c hc
    exact (ten_contains c).1 (dropW_nil.1 h3 c (List.mem_reverse.2 hc))
  · intro h c hc
    have h1 := List.mem_reverse.1 hc
    exact (ten_contains c).2 (h c (List.mem_reverse.1 ((List.dropWhile_sublist _).subset h1)))
theorem strTrim_c {w : World} {s : List UInt8} (hl : s.length ≤ 9223372036854775807) :
    Gives Tryz.prog 120 [strV s, strV tenDigits] w fun v' w' => v' = strV (Lib.trimS s tenDigits) ∧ Ext w w' :=
  Calls.mono (Any.strings_Trim_laid Tryz.lays160 (by kernel_rfl) ⟨s.toArray⟩ ⟨tenDigits.toArray⟩ w (by rw [size_str]; exact hl) (by decide) (ascii_of_all (by decide))) fun e w' ⟨he, hw⟩ => ⟨_, he, rfl, .of_below hw⟩
theorem isDigits_c {w : World} {s : List UInt8} (hl : s.length ≤ 9223372036854775807) :
    Gives Tryz.prog 91 [strV s] w fun v' w' => v' = .bool (tst (DecL s)) ∧ Ext w w' := by
  have hbd : ¬ (s = [] ∨ (s.head? = some 48 ∧ 1 < s.length)) → (DecL s ↔ ∀ c ∈ s, Dig c) := by
    intro h
    refine ⟨fun h2 => h2.2.1, fun h2 => ⟨fun e => h (.inl e), h2, fun h3 => ?_⟩⟩
    have h4 : ¬ 1 < s.length := fun h4 => h (.inr ⟨h3, h4⟩)
    have h5 : s ≠ [] := fun e => h (.inl e)
    have := List.length_pos_iff.2 h5
    omega
  refine gives_of Tryz.func91 rfl rfl rfl ?_
  repeat (first | refine wp_seq_region ?_ | refine wp_seq_seq ?_ | refine wp_region ?_ | refine r_move (by conv => (lhs; whnf)) ?_ | refine r_assign (by conv => (lhs; whnf)) ?_ | refine r_nil ?_)
  refine r_eqlS (b := []) rfl rfl ?_
  repeat (first | refine r_move (by conv => (lhs; whnf)) ?_)
  refine r_mid [(5, 14)] (fun ρ w' => ρ 14 = .bool (tst (s = [] ∨ (s.head? = some 48 ∧ 1 < s.length))) ∧ w' = w) ?_ ?_
  · refine r_guard_split rfl rfl ?_ ?_ <;> intro hnil
    · repeat (first | refine r_nil ?_ | refine q_then ?_ | refine r_guard_skip rfl rfl rfl ?_ | refine r_guard_undef rfl rfl ?_ | refine r_pick_true rfl (by conv => (lhs; whnf)) ?_)
      exact ⟨by (repeat (first | refine agree_upd rfl ?_ | exact agree_over | refine agree_sub rfl ?_ | exact agree_refl | refine agree_base rfl ?_ | refine agree_base' rfl ?_)), by rw [tst_true (Or.inl hnil)]; rfl, rfl⟩
    · obtain ⟨c, hc⟩ : ∃ c, s[0]? = some c := ⟨s[0]'(List.length_pos_iff.2 hnil), List.getElem?_eq_getElem _⟩
      have hc48 : (c.toNat : Int) = 48 ↔ s.head? = some 48 := by
        rw [List.head?_eq_getElem?, hc]
        constructor
        · intro h
          congr 1
          apply UInt8.toNat_inj.1
          show c.toNat = 48
          omega
        · intro h
          have := Option.some.inj h
          subst this
          rfl
      repeat (first | refine r_indexS 0 rfl rfl rfl hc ?_ | refine r_move (by conv => (lhs; whnf)) ?_ | refine r_guard_run rfl rfl ?_ | refine r_eql rfl rfl ?_)
      refine r_guard_split rfl rfl ?_ ?_ <;> intro h48
      · repeat (first | refine r_lenS rfl ?_ | refine r_move (by conv => (lhs; whnf)) ?_ | refine r_nil ?_ | refine q_then ?_ | refine r_guard_run rfl rfl ?_ | refine r_pick_true rfl (by conv => (lhs; whnf)) ?_ | refine r_pick_false rfl (by conv => (lhs; whnf)) ?_ | refine r_gtr rfl rfl ?_)
        refine ⟨by (repeat (first | refine agree_upd rfl ?_ | exact agree_over | refine agree_sub rfl ?_ | exact agree_refl | refine agree_base rfl ?_ | refine agree_base' rfl ?_)), congrArg Value.bool (tst_congr ?_), rfl⟩
        exact ⟨fun h => Or.inr ⟨hc48.1 h48, by omega⟩, fun h => h.elim (fun h => absurd h hnil) fun h => by omega⟩
      · repeat (first | refine r_nil ?_ | refine q_then ?_ | refine r_guard_run rfl rfl ?_ | refine r_guard_skip rfl rfl rfl ?_ | refine r_pick_false rfl (by conv => (lhs; whnf)) ?_)
        refine ⟨by (repeat (first | refine agree_upd rfl ?_ | exact agree_over | refine agree_sub rfl ?_ | exact agree_refl | refine agree_base rfl ?_ | refine agree_base' rfl ?_)), ?_, rfl⟩
        rw [tst_false (show ¬ (s = [] ∨ (s.head? = some 48 ∧ 1 < s.length)) from fun h => h.elim hnil fun h => h48 (hc48.2 h.1))]
        rfl
  rintro u1 w1 ⟨h14, rfl⟩
  refine wp_learn 14 h14 ?_
  clear h14
  skip
  try refine wp_seq_cond ?_
  refine wp_cond_dec rfl ?_ ?_ <;> intro hbad
  · repeat (first | refine wp_seq_region ?_ | refine wp_region ?_ | refine r_assign (by conv => (lhs; whnf)) ?_ | refine r_nil ?_ | refine q_then ?_ | refine wp_ret ?_ | refine q_then_ret ?_)
    refine end_tmp rfl (by conv => (lhs; whnf)) ⟨?_, .refl⟩
    rw [tst_false]
    rintro ⟨h1, h2, h3⟩
    rcases hbad with h | h
    · exact h1 h
    · have := h3 h.1; omega
  · repeat (first | refine wp_seq_region ?_ | refine wp_region ?_ | refine r_move (by conv => (lhs; whnf)) ?_ | refine wp_skip ?_)
    refine r_call (strTrim_c hl) rfl ?_
    rintro v2 w2 ⟨rfl, k2⟩
    refine r_eqlS (b := []) rfl rfl ?_
    repeat (first | refine r_assign (by conv => (lhs; whnf)) ?_ | refine r_nil ?_ | refine q_then ?_ | refine wp_ret ?_)
    refine end_tmp rfl (by conv => (lhs; whnf)) ⟨?_, k2⟩
    rw [tst_congr (trim_nil s), ← tst_congr (hbd hbad)]
theorem decFrom_digs : ∀ {l : List UInt8} {a : Nat}, (∀ c ∈ l, Dig c) → Lib.decFrom a l = some (l.foldl (fun a c => 10 * a + (c.toNat - 48)) a)
  | [], a, _ => rfl
  | c :: r, a, h => by
    have h1 := h c (List.mem_cons_self ..)
    unfold Dig at h1
    have h2 := decFrom_digs (l := r) (a := a * 10 + (c.toNat - 48)) fun x hx => h x (List.mem_cons_of_mem _ hx)
    unfold Lib.decFrom Lib.digitVal
    rw [if_pos h1]
    simp only [List.foldl_cons]
    rw [h2, Nat.mul_comm a]
theorem atoi_digs {l : List UInt8} (hne : l ≠ []) (h : ∀ c ∈ l, Dig c) : Lib.atoi l = some (digV l : Int) := by
  cases l with
  | nil => exact absurd rfl hne
  | cons c r =>
    have h1 := h c (List.mem_cons_self ..)
    unfold Dig at h1
    have e45 : (c == 45) = false := by
      rw [beq_eq_false_iff_ne]
      rintro rfl
      exact absurd h1.1 (by decide)
    have e43 : (c == 43) = false := by
      rw [beq_eq_false_iff_ne]
      rintro rfl
      exact absurd h1.1 (by decide)
    have e : Lib.atoi (c :: r) = if (c == 45) = true then (Lib.decNat r).map fun (m : Nat) => -(m : Int) else if (c == 43) = true then (Lib.decNat r).map fun (m : Nat) => (m : Int) else (Lib.decNat (c :: r)).map fun (m : Nat) => (m : Int) := rfl
    have e2 : Lib.decNat (c :: r) = Lib.decFrom 0 (c :: r) := rfl
    rw [e, e45, e43, e2, decFrom_digs h]
    rfl
theorem ext_bytes {w : World} {T : TypeId} {t : ByteArray} : Ext w (Lib.bytesWorld w T t) := .of_below (Lib.bytesWorld_below w T t)
theorem atoi_c {w : World} {l : List UInt8} (hne : l ≠ []) (h : ∀ c ∈ l, Dig c) (hl : l.length ≤ 18) :
    Gives Tryz.prog 121 [strV l] w fun v' w' => v' = .tuple #[.int .i64 (digV l : Int), .nilIface] ∧ Ext w w' :=
  Calls.mono (Tryz.strconv_Atoi ⟨l.toArray⟩ (digV l : Int) (by rw [size_str]; exact hl) (atoi_digs hne h) w) fun e w' ⟨he, t, hw⟩ => ⟨_, he, rfl, hw ▸ ext_bytes⟩
end Go.Proofs.YtpheooheinfbgaaGreatDoor
end
section
set_option linter.unusedVariables false
set_option linter.unusedSimpArgs false
namespace Go.Proofs.YtpheooheinfbgaaGreatDoor
open Go Go.RowKit
theorem parsed_c {S : Nat → Prop} {w : World} {s : List UInt8} (hS : Up S w) (hd : ∀ c ∈ s, Dig c) (hl : s.length ≤ 1000000) :
    Gives Tryz.prog 93 [strV s] w fun v' w' => Ext w w' ∧ NatV S 157 .u32 w' v' (digV s) := by
  refine gives_of Tryz.func93 rfl rfl rfl ?_
  repeat (first | refine wp_seq_region ?_ | refine wp_region ?_ | refine r_assign (by conv => (lhs; whnf)) ?_ | refine r_nil ?_ | refine q_then ?_)
  try refine wp_seq_block ?_
  refine wp_for ((0, 0) :: [(0, 0), (3, 28)]) (fun k ρ w' => ∃ (L : List Nat) (v : Value), k ≤ s.length ∧ ρ 0 = strV (s.take k) ∧ ρ 3 = v ∧ (0 < k → 9 * L.length + k = s.length) ∧ L.length ≤ s.length ∧ digV (s.drop k) = nval L ∧ Digs L ∧ Ext w w' ∧ Own w.heap.size 157 1 w' v L.length (L.map fun d : Nat => .int .u32 d)) s.length ?_ ?_
  · exact ⟨[], _, Nat.le_refl _, by rw [List.take_of_length_le (Nat.le_refl _)]; rfl, rfl, by simp, by simp, by rw [List.drop_of_length_le (Nat.le_refl _)]; rfl, digs_nil, .refl, own_nil⟩
  rintro k u w1 ⟨L, v, hk, h0, h3, hcnt, hLl, hval, hLd, k1, ho⟩
  refine wp_learn 0 h0 (wp_learn 3 h3 ?_)
  clear h0 h3
  have htk : (s.take k).length = k := by rw [List.length_take]; omega
  repeat (first | refine r_lenS rfl ?_ | refine wp_seq_region ?_ | refine wp_seq_seq ?_ | refine wp_region ?_ | refine r_move (by conv => (lhs; whnf)) ?_ | refine r_nil ?_ | refine q_then ?_ | refine r_gtr rfl rfl ?_)
  try refine wp_seq_cond ?_
  refine wp_cond_dec rfl ?_ ?_ <;> intro hc
  · obtain ⟨cut, hcut⟩ : ∃ cut, cut = k - 9 := ⟨_, rfl⟩
    have hmax : max (0 : Int) (((s.take k).length : Int) - 9) = (cut : Int) := by omega
    obtain ⟨ch, hch⟩ : ∃ ch, ch = (s.take k).drop cut := ⟨_, rfl⟩
    have hchl : ch.length = k - cut := by rw [hch, List.length_drop, htk]
    have hchd : ∀ c ∈ ch, Dig c := fun c hc => hd c (List.mem_of_mem_take (List.mem_of_mem_drop (hch ▸ hc)))
    have hchne : ch ≠ [] := by intro e; rw [e] at hchl; simp at hchl; omega
    have hdv := digV_lt hchd
    have hdv9 : digV ch < 1000000000 := by
      have : 10 ^ ch.length ≤ 10 ^ 9 := Nat.pow_le_pow_right (by omega) (by omega)
      omega
    have hsd : s.drop cut = ch ++ s.drop k := by
      rw [hch]
      conv => lhs; rw [← List.take_append_drop k s]
      rw [List.drop_append_of_le_length (by omega)]
    repeat (first | refine r_lenS rfl ?_ | refine wp_seq_region ?_ | refine wp_region ?_ | refine r_move (by conv => (lhs; whnf)) ?_ | refine r_assign (by conv => (lhs; whnf)) ?_ | refine r_nil ?_ | refine q_then ?_ | refine wp_block_seq ?_ | refine wp_skip ?_ | refine r_subI rfl rfl (by omega) (by omega) ?_ | refine r_max rfl rfl ?_)
    rw [hmax]
    repeat (first | refine r_sliceS_low cut rfl rfl rfl (by omega) ?_)
    rw [← hch]
    refine r_call (atoi_c hchne hchd (by omega)) rfl ?_
    rintro v2 w2 ⟨rfl, k2⟩
    repeat (first | refine wp_seq_region ?_ | refine wp_region ?_ | refine r_move (by conv => (lhs; whnf)) ?_ | refine r_assign (by conv => (lhs; whnf)) ?_ | refine r_nil ?_ | refine r_extract rfl rfl ?_ | refine r_conv rfl (wrap_u32 (by omega) (by omega)) ?_)
    refine r_lit1 (by conv => (lhs; whnf)) rfl ?_
    intro w3 g k3 hg hgs
    refine r_append1 (by conv => (lhs; whnf)) (own_to (own_to ho k2) k3) rfl hg (by omega) rfl (fun u hu => by rw [List.mem_singleton.1 hu]; rfl) (by unfold maxLen; omega) (by omega) (by have := k1.size; have := k2.size; have := k3.size; omega) ?_
    intro v4 w4 ho4 k4
    have hlen : (L ++ [digV ch]).length = L.length + 1 := by rw [List.length_append]; rfl
    repeat (first | refine r_sliceS_high cut rfl rfl rfl (by omega) ?_ | refine wp_region ?_ | refine r_move (by conv => (lhs; whnf)) ?_ | refine r_assign (by conv => (lhs; whnf)) ?_ | refine r_nil ?_ | refine q_then ?_ | refine q_block ?_)
    refine ⟨by (repeat (first | refine agree_upd rfl ?_ | exact agree_over | refine agree_sub rfl ?_ | exact agree_refl | refine agree_base rfl ?_ | refine agree_base' rfl ?_)), cut, by omega, L ++ [digV ch], v4, by omega, ?_, rfl, by rw [hlen]; omega, by rw [hlen]; omega, ?_, hLd.append (Digs.cons hdv9 digs_nil), ?_, by simpa using ho4⟩
    · show strV ((s.take k).take cut) = _
      rw [List.take_take, Nat.min_eq_left (by omega)]
    · rw [hsd, digV_append, hval, nval_snoc, List.length_drop, show s.length - k = 9 * L.length by have := hcnt (by omega); omega, ← pow_nine, Nat.mul_comm (digV ch)]
      omega
    · exact Keeps.later ((k1.trans k2).trans k3) k4 fun i hi _ e => by have := (ho.lt i e.symm).1; omega
  · obtain rfl : k = 0 := by omega
    rw [List.drop_zero] at hval
    repeat (first | refine wp_seq_region ?_ | refine wp_region ?_ | refine r_move (by conv => (lhs; whnf)) ?_ | refine wp_exit ?_)
    refine r_call (trim_c (S := S) (v := v) (l := L) (Row.of_own ho hS) hLd) rfl ?_
    rintro v2 w2 ⟨rfl, h2⟩
    repeat (first | refine r_assign (by conv => (lhs; whnf)) ?_ | refine r_nil ?_ | refine q_then ?_ | refine wp_ret ?_)
    refine end_tmp rfl (by conv => (lhs; whnf)) ⟨k1, ?_⟩
    rw [hval]
    exact h2
theorem has_neg (s : List UInt8) : Lib.hasPrefix s [45] = tst (NegS s) := by
  unfold Lib.hasPrefix NegS
  cases s with
  | nil => rw [tst_false (by simp)]; rfl
  | cons c r =>
    by_cases h : c = 45
    · subst h
      rw [tst_true (by rfl)]
      simp [List.isPrefixOf]
    · rw [tst_false (by simpa using h)]
      simp [List.isPrefixOf]
      exact fun e => h e.symm
theorem trim_neg (s : List UInt8) : Lib.trimPrefix s [45] = Dgs s := by
  unfold Lib.trimPrefix Dgs
  rw [has_neg]
  by_cases h : NegS s
  · rw [tst_true h, if_pos h]; rfl
  · rw [tst_false h, if_neg h]; rfl
theorem cutPrefix_c {w : World} {s : List UInt8} :
    Gives Tryz.prog 90 [strV s, strV [45]] w fun v' w' => v' = .tuple #[strV (Dgs s), .bool (tst (NegS s))] ∧ w' = w :=
  Calls.mono (Tryz.strings_CutPrefix ⟨s.toArray⟩ ⟨[45].toArray⟩ w) fun e w' ⟨he, hw⟩ => ⟨_, he, by
    show Value.tuple #[.string ⟨(Lib.trimPrefix s [45]).toArray⟩, .bool (Lib.hasPrefix s [45])] = _
    rw [trim_neg, has_neg], hw⟩
end Go.Proofs.YtpheooheinfbgaaGreatDoor
end
section
set_option linter.unusedVariables false
set_option linter.unusedSimpArgs false
namespace Go.Proofs.YtpheooheinfbgaaGreatDoor
open Go Go.RowKit
theorem cut_idx (l : List UInt8) (c : UInt8) : (Lib.indexByte l c = -1 ∧ c ∉ l) ∨ ∃ a b, l = a ++ c :: b ∧ c ∉ a ∧ Lib.indexByte l c = (a.length : Int) := by
  induction l with
  | nil => exact .inl ⟨rfl, by simp⟩
  | cons x l ih =>
    unfold Lib.indexByte
    by_cases hx : x = c
    · subst hx
      exact .inr ⟨[], l, rfl, by simp, by simp⟩
    · have hb : (x == c) = false := by simpa using hx
      rcases ih with ⟨h1, h2⟩ | ⟨a, b, rfl, h2, h3⟩
      · refine .inl ⟨by simp [hb, h1], ?_⟩
        intro h
        rcases List.mem_cons.1 h with h | h
        · exact hx h.symm
        · exact h2 h
      · refine .inr ⟨x :: a, b, rfl, ?_, ?_⟩
        · intro h
          rcases List.mem_cons.1 h with h | h
          · exact hx h.symm
          · exact h2 h
        · rw [h3]
          have : ((a.length : Int) == -1) = false := by simp
          simp [hb, this]
theorem r_lenE {P : Program} {n : Nat} {Q : Post} {ρ : Fr} {w : World} {all rest : List Oper} {d : Tmp} {ty : TypeId} {pos : String} {aft : Array Edge} {t : TypeId} [st : StrT P t] {x : Operand} {l : List UInt8} (m : Int) (hv : ev ρ x = strV l) (hm : (l.length : Int) = m)
    (h : WpR P n all Q rest (upd ρ d (.int .i64 m)) w) : WpR P n all Q (⟨some d, .call ⟨.builtin .len, #[x], #[t]⟩, ty, pos, aft, none⟩ :: rest) ρ w := r_lenS hv (by rw [hm]; exact h)
theorem indexByte_c {w : World} {s : List UInt8} :
    Gives Tryz.prog 173 [strV s, .int .u8 47] w fun v' w' => v' = .int .i64 (Lib.indexByte s 47) ∧ w' = w :=
  Calls.mono (Tryz.stringslite_IndexByte ⟨s.toArray⟩ 47 w) fun e w' ⟨he, hw⟩ => ⟨_, he, rfl, hw⟩
theorem sindex_c {w : World} {s : List UInt8} (hl : s.length ≤ 9223372036854775806) :
    Gives Tryz.prog 148 [strV s, strV [47]] w fun v' w' => v' = .int .i64 (Lib.indexByte s 47) ∧ w' = w := by
  refine gives_of Tryz.func148 rfl rfl rfl ?_
  repeat (first | refine r_lenE 1 rfl rfl ?_ | refine wp_seq_region ?_ | refine wp_seq_bseq ?_ | refine wp_region ?_ | refine r_move (by conv => (lhs; whnf)) ?_ | refine r_assign (by conv => (lhs; whnf)) ?_ | refine r_nil ?_ | refine wp_block_seq ?_ | refine r_guard_run rfl rfl ?_ | refine r_eql rfl rfl ?_ | refine r_guard_no rfl rfl (by omega) ?_)
  refine r_eqlS (a := [47]) (b := s) rfl rfl ?_
  repeat (first | refine r_assign (by conv => (lhs; whnf)) ?_ | refine r_nil ?_ | refine q_then ?_ | refine r_pick_false rfl (by conv => (lhs; whnf)) ?_)
  try refine wp_seq_cond ?_
  refine wp_cond_dec rfl ?_ ?_ <;> intro hc
  · have h47 : s = [47] := by simpa using hc.symm
    subst h47
    repeat (first | refine wp_seq_region ?_ | refine wp_region ?_ | refine r_assign (by conv => (lhs; whnf)) ?_ | refine r_nil ?_ | refine q_then ?_ | refine wp_ret ?_ | refine q_then_ret ?_ | refine q_block_ret ?_)
    exact end_tmp rfl (by conv => (lhs; whnf)) ⟨by rw [show Lib.indexByte [47] 47 = 0 from by simp [Lib.indexByte]], rfl⟩
  · repeat (first | refine r_indexS 0 rfl rfl rfl (c := 47) rfl ?_ | refine wp_seq_region ?_ | refine wp_region ?_ | refine r_move (by conv => (lhs; whnf)) ?_ | refine r_assign (by conv => (lhs; whnf)) ?_ | refine r_nil ?_ | refine q_then ?_ | refine r_eql rfl rfl ?_ | refine wp_cond_yes rfl (by omega) ?_)
    refine r_call (indexByte_c (s := s)) rfl ?_
    rintro v2 w2 ⟨rfl, rfl⟩
    repeat (first | refine r_assign (by conv => (lhs; whnf)) ?_ | refine r_nil ?_ | refine q_then ?_ | refine wp_ret ?_ | refine q_then_ret ?_ | refine q_block_ret ?_)
    exact end_tmp rfl (by conv => (lhs; whnf)) ⟨rfl, rfl⟩
def CutR (v : Value) (s : List UInt8) : Prop := ((47 : UInt8) ∉ s ∧ v = .tuple #[strV s, strV [], .bool false]) ∨ ∃ a b, s = a ++ 47 :: b ∧ (47 : UInt8) ∉ a ∧ v = .tuple #[strV a, strV b, .bool true]
theorem slcut_c {w : World} {s : List UInt8} (hl : s.length ≤ 9223372036854775806) :
    Gives Tryz.prog 118 [strV s, strV [47]] w fun v' w' => Ext w w' ∧ CutR v' s := by
  refine gives_of Tryz.func118 rfl rfl rfl ?_
  repeat (first | refine wp_seq_region ?_ | refine wp_seq_seq ?_ | refine wp_region ?_ | refine r_move (by conv => (lhs; whnf)) ?_ | refine r_assign (by conv => (lhs; whnf)) ?_ | refine r_nil ?_)
  refine r_call (sindex_c hl) rfl ?_
  rintro v1 w1 ⟨rfl, rfl⟩
  repeat (first | refine wp_seq_region ?_ | refine wp_region ?_ | refine r_move (by conv => (lhs; whnf)) ?_ | refine r_assign (by conv => (lhs; whnf)) ?_ | refine r_nil ?_ | refine q_then ?_ | refine r_geq rfl rfl ?_)
  rcases cut_idx s 47 with ⟨h1, h2⟩ | ⟨a, b, rfl, h2, h3⟩
  · rw [h1]
    repeat (first | refine wp_seq_region ?_ | refine wp_region ?_ | refine r_move (by conv => (lhs; whnf)) ?_ | refine r_assign (by conv => (lhs; whnf)) ?_ | refine r_nil ?_ | refine q_then ?_ | refine wp_ret ?_ | refine wp_skip ?_ | refine wp_cond_no rfl (by omega) ?_)
    exact end3 rfl (resV_tmp (by conv => (lhs; whnf))) (resV_tmp (by conv => (lhs; whnf))) (resV_tmp (by conv => (lhs; whnf))) ⟨.refl, .inl ⟨h2, rfl⟩⟩
  · rw [h3]
    have hla : a.length + 1 ≤ (a ++ 47 :: b).length := by simp
    repeat (first | refine wp_seq_region ?_ | refine wp_cond_yes rfl (by omega) ?_)
    refine wp_drawn 10 (by kernel_rfl) (by kernel_rfl) ?_
    apply ob_step
    · intro x w1 k1 hd
      refine r_move (by conv => (lhs; whnf)) ?_
      refine r_nil ?_
      exact ob_eq
    apply ob_step
    · intro x w1 k1 hd
      refine r_move (by conv => (lhs; whnf)) ?_
      refine r_nil ?_
      exact ob_eq
    apply ob_step
    · intro x w1 k1 hd
      refine r_sliceS_high a.length rfl rfl rfl (by omega) ?_
      refine r_nil ?_
      exact ob_eq
    apply ob_step
    · intro x w1 k1 hd
      refine r_move (by conv => (lhs; whnf)) ?_
      refine r_nil ?_
      exact ob_eq
    apply ob_step
    · intro x w1 k1 hd
      refine r_move (by conv => (lhs; whnf)) ?_
      refine r_nil ?_
      exact ob_eq
    apply ob_step
    · intro x w1 k1 hd
      refine r_move (by conv => (lhs; whnf)) ?_
      refine r_nil ?_
      exact ob_eq
    apply ob_step
    · intro x w1 k1 hd
      refine r_lenE 1 rfl rfl ?_
      refine r_nil ?_
      exact ob_eq
    apply ob_step
    · intro x w1 k1 hd
      refine r_addI rfl rfl (by omega) (by omega) ?_
      refine r_nil ?_
      exact ob_eq
    apply ob_step
    · intro x w1 k1 hd
      refine r_sliceS_low (a.length + 1) rfl rfl rfl (by omega) ?_
      refine r_nil ?_
      exact ob_eq
    apply ob_step
    · intro x w1 k1 hd
      refine r_assign (by conv => (lhs; whnf)) ?_
      refine r_nil ?_
      exact ob_eq
    refine ob_nil (ob_end ?_)
    intro x w2 k2 _
    repeat (first | refine r_assign (by conv => (lhs; whnf)) ?_ | refine r_nil ?_ | refine q_then ?_ | refine wp_ret ?_ | refine q_then_ret ?_)
    refine end3 rfl (resV_tmp (by conv => (lhs; whnf))) (resV_tmp (by conv => (lhs; whnf))) (resV_tmp (by conv => (lhs; whnf))) ⟨k2, .inr ⟨a, b, rfl, h2, ?_⟩⟩
    rw [List.take_left' rfl, show a ++ 47 :: b = (a ++ [47]) ++ b by simp, List.drop_left' (by simp)]
theorem cut_c {w : World} {s : List UInt8} (hl : s.length ≤ 9223372036854775806) :
    Gives Tryz.prog 89 [strV s, strV [47]] w fun v' w' => Ext w w' ∧ CutR v' s := by
  refine gives_of Tryz.func89 rfl rfl rfl ?_
  repeat (first | refine wp_seq_region ?_ | refine wp_region ?_ | refine r_move (by conv => (lhs; whnf)) ?_ | refine r_assign (by conv => (lhs; whnf)) ?_ | refine r_nil ?_)
  refine r_call (slcut_c hl) rfl ?_
  rintro v1 w1 ⟨k1, h1⟩
  rcases h1 with ⟨h1, rfl⟩ | ⟨a, b, h1, h2, rfl⟩
  · repeat (first | refine r_assign (by conv => (lhs; whnf)) ?_ | refine r_nil ?_ | refine q_then ?_ | refine wp_ret ?_ | refine r_extract rfl rfl ?_)
    exact end3 rfl (resV_tmp (by conv => (lhs; whnf))) (resV_tmp (by conv => (lhs; whnf))) (resV_tmp (by conv => (lhs; whnf))) ⟨k1, .inl ⟨h1, rfl⟩⟩
  · repeat (first | refine r_assign (by conv => (lhs; whnf)) ?_ | refine r_nil ?_ | refine q_then ?_ | refine wp_ret ?_ | refine r_extract rfl rfl ?_)
    exact end3 rfl (resV_tmp (by conv => (lhs; whnf))) (resV_tmp (by conv => (lhs; whnf))) (resV_tmp (by conv => (lhs; whnf))) ⟨k1, .inr ⟨a, b, h1, h2, rfl⟩⟩
end Go.Proofs.YtpheooheinfbgaaGreatDoor
end
section
set_option linter.unusedVariables false
set_option linter.unusedSimpArgs false
namespace Go.Proofs.YtpheooheinfbgaaGreatDoor
open Go Go.RowKit
def Parts (s : List UInt8) (n : Int) (d : Nat) : Prop :=
  (d = 0 ∧ (47 : UInt8) ∉ s ∧ s = Lib.itoa n) ∨ (2 ≤ d ∧ ∃ a, (47 : UInt8) ∉ a ∧ s = a ++ 47 :: Lib.decDigits d ∧ a = Lib.itoa n)
def denK (d : Nat) : Nat := if d = 0 then 1 else d
theorem parts_good {s : List UInt8} {n : Int} {d : Nat} (h : Parts s n d) (hg : Nat.gcd (denK d) n.natAbs = 1) : ∃ q : Rat, q.num = n ∧ bot q = d ∧ s = rstr q := by
  unfold denK at hg
  rcases h with ⟨rfl, h1, h2⟩ | ⟨h0, a, h1, rfl, h2⟩
  · exact ⟨(n : Rat), rfl, bot_int n, (rstr_none h1 _).2 ⟨rfl, h2⟩⟩
  · rw [if_neg (by omega), Nat.gcd_comm] at hg
    obtain ⟨q, h3, h4⟩ := rat_of n (d := d) (by omega) hg
    refine ⟨q, h3, ?_, (rstr_cut h1 q).2 ⟨by omega, by rw [h3]; exact h2, by rw [h4]⟩⟩
    unfold bot
    rw [if_neg (by omega), h4]
theorem parts_bad {s : List UInt8} {n : Int} {d : Nat} (h : Parts s n d) (hg : Nat.gcd (denK d) n.natAbs ≠ 1) : ∀ q, s ≠ rstr q := fun q hq => by
  unfold denK at hg
  rcases h with ⟨rfl, h1, h2⟩ | ⟨h0, a, h1, rfl, h2⟩
  · rw [if_pos rfl, Nat.gcd_one_left] at hg
    exact hg rfl
  · rw [if_neg (by omega), Nat.gcd_comm] at hg
    obtain ⟨h3, h4, h5⟩ := (rstr_cut h1 q).1 hq
    have h6 := congrArg digV h5
    rw [digV_dec, digV_dec] at h6
    rw [h2] at h4
    have h7 := itoa_inj h4
    subst h6 h7
    exact hg (rat_gcd q)
theorem dl_of_lt {n j k : Nat} (h : n < 10 ^ j) (hj : j ≤ 9 * k) : dl n ≤ k := by
  refine dl_le ?_
  rw [pow_nine]
  exact Nat.lt_of_lt_of_le h (pow_mono_10 hj)
theorem zl_itoaP {z : Int} {s : List UInt8} (h : s = Lib.itoa z) {k : Nat} (hl : s.length ≤ 9 * k) : zl z ≤ k := dl_digits (Nat.le_trans (abs_digits z) (h ▸ hl))
theorem den0_c {S : Nat → Prop} {w : World} {x m b : Value} {d : Nat} (hS : Up S w) (h1 : x.oneCell' = true) (h2 : m.oneCell' = true) (hb : NatV S 157 .u32 w b d) :
    Gives Tryz.prog 95 [.agg #[x, m, b]] w fun v' w' => Ext w w' ∧ NatV S 157 .u32 w' v' (denK d) := by
  have hl := @dl_eq_zero d
  unfold dl at hl
  unfold denK
  refine gives_of Tryz.func95 rfl rfl rfl ?_
  have k : Ext w w := .refl
  repeat (first | refine wp_seq_region ?_ | refine wp_region ?_)
  refine r_box (cs := [x, m, b]) (by conv => (lhs; whnf)) rfl ?_
  intro w_1 g k_1 hg hs_1
  have hsg : w.heap.size ≤ g := Nat.le_trans k.size hs_1
  clear hs_1
  replace hS := hS.to k_1
  replace hb := hb.to k_1
  replace k := k.trans k_1
  clear k_1
  repeat (first | refine r_load_blk rfl hg rfl ?_ | refine wp_seq_region ?_ | refine wp_seq_seq ?_ | refine wp_region ?_ | refine r_assign (by conv => (lhs; whnf)) ?_ | refine r_nil ?_ | refine q_then ?_ | refine r_len (by conv => (lhs; whnf)) (by assumption) ?_ | refine r_eql rfl rfl ?_ | refine r_field rfl ?_)
  try refine wp_seq_cond ?_
  refine wp_cond_dec rfl ?_ ?_ <;> intro hc
  · repeat (first | refine wp_seq_region ?_ | refine wp_region ?_)
    refine r_call (one_c hS) rfl ?_
    rintro v_2 w_2 ⟨k_2, h3⟩
    replace hS := hS.to k_2
    replace hb := hb.to k_2
    replace hg := hg.to k_2
    replace k := k.trans k_2
    clear k_2
    repeat (first | refine r_assign (by conv => (lhs; whnf)) ?_ | refine r_nil ?_ | refine q_then ?_ | refine wp_ret ?_ | refine q_then_ret ?_)
    refine end_tmp rfl (by conv => (lhs; whnf)) ⟨k, ?_⟩
    rw [if_pos (hl.1 (by omega))]
    exact h3
  · repeat (first | refine r_load_blk rfl hg rfl ?_ | refine wp_seq_region ?_ | refine wp_region ?_ | refine r_assign (by conv => (lhs; whnf)) ?_ | refine r_nil ?_ | refine q_then ?_ | refine wp_ret ?_ | refine wp_skip ?_ | refine r_field rfl ?_)
    refine end_tmp rfl (by conv => (lhs; whnf)) ⟨k, ?_⟩
    rw [if_neg (fun h => hc (by have := hl.2 h; omega))]
    exact hb
theorem isOne_e {S : Nat → Prop} {w : World} {va : Value} {a : Nat} (ha : NatV S 157 .u32 w va a) :
    Gives Tryz.prog 96 [va] w fun v' w' => v' = .bool (tst (a = 1)) ∧ Ext w w' := (isOne_c ha).mono fun _ _ ⟨h, e⟩ => ⟨h, e ▸ .refl⟩
theorem bad_iff (s : List UInt8) : (¬ DecL (Dgs s) ∨ (NegS s ∧ Dgs s = [48])) ↔ ∀ z, s ≠ Lib.itoa z := by
  constructor
  · rintro (h | ⟨h1, h2⟩) z hz
    · exact h ((num_iff s).1 ⟨z, hz⟩).1
    · exact ((num_iff s).1 ⟨z, hz⟩).2 h1 (by rw [h2]; rfl)
  · intro h
    by_cases hd : DecL (Dgs s)
    · right
      have h2 : ¬ (NegS s → (Dgs s).head? ≠ some 48) := fun h2 => h _ (num_val hd h2)
      by_cases hn : NegS s
      · refine ⟨hn, ?_⟩
        have h3 : (Dgs s).head? = some 48 := Classical.byContradiction fun h3 => h2 fun _ => h3
        have h4 := hd.2.2 h3
        match hds : Dgs s, h3, h4 with
        | [c], h3, _ => simp at h3; rw [h3]
      · exact absurd (fun h3 => absurd h3 hn) h2
    · exact .inl hd
theorem dec_two {b : List UInt8} (h : DecL b) (h0 : b ≠ [48]) (h1 : b ≠ [49]) : 2 ≤ digV b := by
  have h2 := dec_digV h
  rcases Nat.lt_or_ge (digV b) 2 with h3 | h3
  · exfalso
    have h4 : digV b = 0 ∨ digV b = 1 := by omega
    rcases h4 with h4 | h4
    · rw [h4, Lib.decDigits_one (by decide)] at h2; exact h0 h2.symm
    · rw [h4, Lib.decDigits_one (by decide)] at h2; exact h1 h2.symm
  · exact h3
theorem dec_two' {b : List UInt8} (h : ¬ (DecL b ∧ b ≠ [48] ∧ b ≠ [49])) {d : Nat} (hd : 2 ≤ d) : b ≠ Lib.decDigits d := by
  rintro rfl
  refine h ⟨decL_dec d, fun e => ?_, fun e => ?_⟩
  · have := congrArg digV e; rw [digV_dec, show digV [48] = 0 from rfl] at this; omega
  · have := congrArg digV e; rw [digV_dec, show digV [49] = 1 from rfl] at this; omega
theorem numV_parts (s : List UInt8) : (numV s).natAbs = digV (Dgs s) ∧ (numV s < 0 ↔ NegS s ∧ 0 < digV (Dgs s)) := by
  unfold numV
  split
  · rename_i h; exact ⟨by omega, ⟨fun h2 => ⟨h, by omega⟩, fun h2 => by omega⟩⟩
  · rename_i h; exact ⟨by omega, ⟨fun h2 => by omega, fun h2 => absurd h2.1 h⟩⟩
def Form2 (s a b : List UInt8) (has : Bool) : Prop := (has = false ∧ (47 : UInt8) ∉ s ∧ a = s ∧ b = []) ∨ (has = true ∧ s = a ++ 47 :: b ∧ (47 : UInt8) ∉ a)
theorem form_bad {s a b : List UInt8} {has : Bool} (h : Form2 s a b has) (hb : (∀ z, a ≠ Lib.itoa z) ∨ (has = true ∧ ¬ (DecL b ∧ b ≠ [48] ∧ b ≠ [49]))) : ∀ q, s ≠ rstr q := fun q hq => by
  rcases h with ⟨rfl, h1, rfl, rfl⟩ | ⟨rfl, rfl, h1⟩
  · rcases hb with hb | ⟨hb, _⟩
    · exact hb _ ((rstr_none h1 q).1 hq).2
    · cases hb
  · obtain ⟨h2, h3, h4⟩ := (rstr_cut h1 q).1 hq
    rcases hb with hb | ⟨_, hb⟩
    · exact hb _ h3
    · have := q.den_pos
      exact dec_two' hb (d := q.den) (by omega) h4
set_option maxHeartbeats 2000000 in
theorem rparse_c {S : Nat → Prop} {w : World} {s : List UInt8} (hS : Up S w) (hl : s.length ≤ 140737488351232) :
    Gives Tryz.prog 58 [strV s] w fun v' w' => Ext w w' ∧
      ((70000 < s.length ∧ v' = .tuple #[.agg #[.bool false, .slice none 0 0, .slice none 0 0], .int .i64 2]) ∨ (s.length ≤ 70000 ∧ (∀ q, s ≠ rstr q) ∧ v' = .tuple #[.agg #[.bool false, .slice none 0 0, .slice none 0 0], .int .i64 10]) ∨ (s.length ≤ 70000 ∧ ∃ q, s = rstr q ∧ Tried S w' v' q)) := by
  refine gives_of Tryz.func58 rfl rfl rfl ?_
  have k : Ext w w := .refl
  repeat (first | refine wp_seq_region ?_ | refine wp_region ?_)
  refine r_alloc (cs := [.bool false, .slice none 0 0, .slice none 0 0]) rfl ?_
  intro w_1 g k_1 hg hs_1
  have hsg : w.heap.size ≤ g := Nat.le_trans k.size hs_1
  clear hs_1
  replace hS := hS.to k_1
  replace k := k.trans k_1
  clear k_1
  repeat (first | refine r_lenS rfl ?_ | refine wp_seq_region ?_ | refine wp_seq_seq ?_ | refine wp_region ?_ | refine r_move (by conv => (lhs; whnf)) ?_ | refine r_assign (by conv => (lhs; whnf)) ?_ | refine r_nil ?_ | refine q_then ?_ | refine r_gtr rfl rfl ?_)
  try refine wp_seq_cond ?_
  refine wp_cond_dec rfl ?_ ?_ <;> intro hlong
  · repeat (first | refine wp_seq_region ?_ | refine wp_region ?_)
    refine r_build0 (cs := [.bool false, .slice none 0 0, .slice none 0 0]) rfl ?_
    refine r_store3 rfl (by conv => (lhs; whnf)) hg rfl rfl rfl rfl ?_
    intro w_2 k_2 h_2
    replace hS := hS.to k_2
    replace k : Ext w w_2 := k.past k_2 hsg
    replace hg := h_2
    clear h_2 k_2
    repeat (first | refine r_assign (by conv => (lhs; whnf)) ?_ | refine r_nil ?_ | refine q_then ?_ | refine wp_ret ?_ | refine q_then_ret ?_)
    exact end2 rfl (resV_agg (by conv => (lhs; whnf)) hg rfl) (resV_tmp (by conv => (lhs; whnf))) ⟨k, .inl ⟨by omega, rfl⟩⟩
  · repeat (first | refine wp_seq_region ?_ | refine wp_region ?_ | refine r_move (by conv => (lhs; whnf)) ?_ | refine wp_skip ?_)
    refine r_call (cut_c (s := s) (by omega)) rfl ?_
    rintro v_2 w_2 ⟨k_2, c1⟩
    replace hS := hS.to k_2
    replace hg := hg.to k_2
    replace k := k.trans k_2
    clear k_2
    obtain ⟨a, b, has, rfl, hf⟩ : ∃ a b has, v_2 = .tuple #[strV a, strV b, .bool has] ∧ Form2 s a b has := by
      rcases c1 with ⟨h1, rfl⟩ | ⟨a, b, rfl, h1, rfl⟩
      · exact ⟨s, [], false, rfl, .inl ⟨rfl, h1, rfl, rfl⟩⟩
      · exact ⟨a, b, true, rfl, .inr ⟨rfl, rfl, h1⟩⟩
    have hal : a.length ≤ 70000 ∧ b.length ≤ 70000 := by
      rcases hf with ⟨_, _, rfl, rfl⟩ | ⟨_, rfl, _⟩
      · exact ⟨by omega, by simp⟩
      · simp at hlong; exact ⟨by omega, by omega⟩
    clear c1
    have hDl := dgs_le a
    repeat (first | refine wp_seq_region ?_ | refine wp_region ?_ | refine r_move (by conv => (lhs; whnf)) ?_ | refine r_assign (by conv => (lhs; whnf)) ?_ | refine r_nil ?_ | refine r_extract rfl rfl ?_)
    refine r_call (cutPrefix_c (s := a)) rfl ?_
    rintro v3 w3 ⟨rfl, rfl⟩
    repeat (first | refine wp_seq_region ?_ | refine wp_seq_seq ?_ | refine wp_region ?_ | refine r_move (by conv => (lhs; whnf)) ?_ | refine r_assign (by conv => (lhs; whnf)) ?_ | refine r_nil ?_ | refine r_extract rfl rfl ?_)
    refine r_call (isDigits_c (s := Dgs a) (by omega)) rfl ?_
    rintro v_3 w_3 ⟨rfl, k_3⟩
    replace hS := hS.to k_3
    replace hg := hg.to k_3
    replace k := k.trans k_3
    clear k_3
    repeat (first | refine r_move (by conv => (lhs; whnf)) ?_ | refine r_notB rfl ?_)
    have hba := bad_iff a
    have hgd : ¬ (∀ z, a ≠ Lib.itoa z) → DecL (Dgs a) := fun hbad => Classical.byContradiction fun h => hbad (hba.1 (.inl h))
    refine r_mid [(27, 50)] (fun ρ w' => ρ 50 = .bool (tst ((∀ z, a ≠ Lib.itoa z) ∨ (has = true ∧ ¬ (DecL b ∧ b ≠ [48] ∧ b ≠ [49])))) ∧ Ext w_3 w') ?_ ?_
    · by_cases hbad : ∀ z, a ≠ Lib.itoa z
      · by_cases hd : DecL (Dgs a)
        · rcases hba.2 hbad with h | ⟨h1, h2⟩
          · exact absurd hd h
          · rw [tst_false (show ¬ ¬ DecL (Dgs a) from fun h => h hd), tst_true h1]
            repeat (first | refine r_move (by conv => (lhs; whnf)) ?_ | refine r_guard_run rfl rfl ?_)
            refine r_eqlS (b := [48]) rfl rfl ?_
            rw [tst_true h2]
            repeat (first | refine r_move (by conv => (lhs; whnf)) ?_ | refine r_nil ?_ | refine q_then ?_ | refine r_guard_run rfl rfl ?_ | refine r_guard_skip rfl rfl rfl ?_ | refine r_guard_undef rfl rfl ?_ | refine r_pick_true rfl (by conv => (lhs; whnf)) ?_ | refine r_pick_false rfl (by conv => (lhs; whnf)) ?_)
            exact ⟨by (repeat (first | refine agree_upd rfl ?_ | exact agree_over | refine agree_sub rfl ?_ | exact agree_refl | refine agree_base rfl ?_ | refine agree_base' rfl ?_)), by rw [tst_true (Or.inl hbad)]; rfl, .refl⟩
        · rw [tst_true hd]
          repeat (first | refine r_move (by conv => (lhs; whnf)) ?_ | refine r_nil ?_ | refine q_then ?_ | refine r_guard_skip rfl rfl rfl ?_ | refine r_guard_undef rfl rfl ?_ | refine r_pick_true rfl (by conv => (lhs; whnf)) ?_)
          exact ⟨by (repeat (first | refine agree_upd rfl ?_ | exact agree_over | refine agree_sub rfl ?_ | exact agree_refl | refine agree_base rfl ?_ | refine agree_base' rfl ?_)), by rw [tst_true (Or.inl hbad)]; rfl, .refl⟩
      · rw [tst_false (show ¬ ¬ DecL (Dgs a) from fun h => h (hgd hbad))]
        by_cases hn : NegS a
        · have h48 : ¬ Dgs a = [48] := fun h => hbad (hba.1 (.inr ⟨hn, h⟩))
          rw [tst_true hn]
          repeat (first | refine r_move (by conv => (lhs; whnf)) ?_ | refine r_guard_run rfl rfl ?_)
          refine r_eqlS (b := [48]) rfl rfl ?_
          rw [tst_false h48]
          cases has
          · repeat (first | refine r_move (by conv => (lhs; whnf)) ?_ | refine r_nil ?_ | refine q_then ?_ | refine r_guard_run rfl rfl ?_ | refine r_guard_skip rfl rfl rfl ?_ | refine r_guard_undef rfl rfl ?_ | refine r_pick_true rfl (by conv => (lhs; whnf)) ?_ | refine r_pick_false rfl (by conv => (lhs; whnf)) ?_)
            exact ⟨by (repeat (first | refine agree_upd rfl ?_ | exact agree_over | refine agree_sub rfl ?_ | exact agree_refl | refine agree_base rfl ?_ | refine agree_base' rfl ?_)), congrArg Value.bool (tst_false (fun h => h.elim hbad fun h2 => Bool.noConfusion h2.1)).symm, .refl⟩
          · repeat (first | refine r_move (by conv => (lhs; whnf)) ?_ | refine r_guard_run rfl rfl ?_ | refine r_pick_true rfl (by conv => (lhs; whnf)) ?_ | refine r_pick_false rfl (by conv => (lhs; whnf)) ?_)
            refine r_call (isDigits_c (s := b) (by omega)) rfl ?_
            rintro v5 w5 ⟨rfl, k5⟩
            by_cases hd : DecL b
            · rw [tst_true hd]
              repeat (first | refine r_move (by conv => (lhs; whnf)) ?_ | refine r_guard_run rfl rfl ?_ | refine r_not rfl ?_)
              refine r_eqlS (b := [48]) rfl rfl ?_
              by_cases h0 : b = [48]
              · rw [tst_true h0]
                repeat (first | refine r_move (by conv => (lhs; whnf)) ?_ | refine r_nil ?_ | refine q_then ?_ | refine r_guard_run rfl rfl ?_ | refine r_guard_skip rfl rfl rfl ?_ | refine r_pick_true rfl (by conv => (lhs; whnf)) ?_ | refine r_pick_false rfl (by conv => (lhs; whnf)) ?_)
                exact ⟨by (repeat (first | refine agree_upd rfl ?_ | exact agree_over | refine agree_sub rfl ?_ | exact agree_refl | refine agree_base rfl ?_ | refine agree_base' rfl ?_)), congrArg Value.bool (tst_true (Or.inr ⟨rfl, fun h => h.2.1 h0⟩)).symm, k5⟩
              · rw [tst_false h0]
                repeat (first | refine r_move (by conv => (lhs; whnf)) ?_ | refine r_guard_run rfl rfl ?_ | refine r_pick_false rfl (by conv => (lhs; whnf)) ?_)
                refine r_eqlS (b := [49]) rfl rfl ?_
                repeat (first | refine r_nil ?_ | refine q_then ?_ | refine r_guard_run rfl rfl ?_ | refine r_pick_true rfl (by conv => (lhs; whnf)) ?_ | refine r_pick_false rfl (by conv => (lhs; whnf)) ?_)
                refine ⟨by (repeat (first | refine agree_upd rfl ?_ | exact agree_over | refine agree_sub rfl ?_ | exact agree_refl | refine agree_base rfl ?_ | refine agree_base' rfl ?_)), congrArg Value.bool (tst_congr ?_), k5⟩
                exact ⟨fun h => Or.inr ⟨rfl, fun h2 => h2.2.2 h⟩, fun h => Classical.byContradiction fun h2 => h.elim hbad fun h => h.2 ⟨hd, h0, h2⟩⟩
            · rw [tst_false hd]
              repeat (first | refine r_move (by conv => (lhs; whnf)) ?_ | refine r_nil ?_ | refine q_then ?_ | refine r_guard_run rfl rfl ?_ | refine r_guard_skip rfl rfl rfl ?_ | refine r_pick_true rfl (by conv => (lhs; whnf)) ?_ | refine r_pick_false rfl (by conv => (lhs; whnf)) ?_ | refine r_not rfl ?_)
              exact ⟨by (repeat (first | refine agree_upd rfl ?_ | exact agree_over | refine agree_sub rfl ?_ | exact agree_refl | refine agree_base rfl ?_ | refine agree_base' rfl ?_)), congrArg Value.bool (tst_true (Or.inr ⟨rfl, fun h => hd h.1⟩)).symm, k5⟩
        · rw [tst_false hn]
          cases has
          · repeat (first | refine r_move (by conv => (lhs; whnf)) ?_ | refine r_nil ?_ | refine q_then ?_ | refine r_guard_run rfl rfl ?_ | refine r_guard_skip rfl rfl rfl ?_ | refine r_guard_undef rfl rfl ?_ | refine r_pick_false rfl (by conv => (lhs; whnf)) ?_)
            exact ⟨by (repeat (first | refine agree_upd rfl ?_ | exact agree_over | refine agree_sub rfl ?_ | exact agree_refl | refine agree_base rfl ?_ | refine agree_base' rfl ?_)), congrArg Value.bool (tst_false (fun h => h.elim hbad fun h2 => Bool.noConfusion h2.1)).symm, .refl⟩
          · repeat (first | refine r_move (by conv => (lhs; whnf)) ?_ | refine r_guard_run rfl rfl ?_ | refine r_guard_skip rfl rfl rfl ?_ | refine r_pick_false rfl (by conv => (lhs; whnf)) ?_)
            refine r_call (isDigits_c (s := b) (by omega)) rfl ?_
            rintro v5 w5 ⟨rfl, k5⟩
            by_cases hd : DecL b
            · rw [tst_true hd]
              repeat (first | refine r_move (by conv => (lhs; whnf)) ?_ | refine r_guard_run rfl rfl ?_ | refine r_not rfl ?_)
              refine r_eqlS (b := [48]) rfl rfl ?_
              by_cases h0 : b = [48]
              · rw [tst_true h0]
                repeat (first | refine r_move (by conv => (lhs; whnf)) ?_ | refine r_nil ?_ | refine q_then ?_ | refine r_guard_run rfl rfl ?_ | refine r_guard_skip rfl rfl rfl ?_ | refine r_pick_true rfl (by conv => (lhs; whnf)) ?_ | refine r_pick_false rfl (by conv => (lhs; whnf)) ?_)
                exact ⟨by (repeat (first | refine agree_upd rfl ?_ | exact agree_over | refine agree_sub rfl ?_ | exact agree_refl | refine agree_base rfl ?_ | refine agree_base' rfl ?_)), congrArg Value.bool (tst_true (Or.inr ⟨rfl, fun h => h.2.1 h0⟩)).symm, k5⟩
              · rw [tst_false h0]
                repeat (first | refine r_move (by conv => (lhs; whnf)) ?_ | refine r_guard_run rfl rfl ?_ | refine r_pick_false rfl (by conv => (lhs; whnf)) ?_)
                refine r_eqlS (b := [49]) rfl rfl ?_
                repeat (first | refine r_nil ?_ | refine q_then ?_ | refine r_guard_run rfl rfl ?_ | refine r_pick_true rfl (by conv => (lhs; whnf)) ?_ | refine r_pick_false rfl (by conv => (lhs; whnf)) ?_)
                refine ⟨by (repeat (first | refine agree_upd rfl ?_ | exact agree_over | refine agree_sub rfl ?_ | exact agree_refl | refine agree_base rfl ?_ | refine agree_base' rfl ?_)), congrArg Value.bool (tst_congr ?_), k5⟩
                exact ⟨fun h => Or.inr ⟨rfl, fun h2 => h2.2.2 h⟩, fun h => Classical.byContradiction fun h2 => h.elim hbad fun h => h.2 ⟨hd, h0, h2⟩⟩
            · rw [tst_false hd]
              repeat (first | refine r_move (by conv => (lhs; whnf)) ?_ | refine r_nil ?_ | refine q_then ?_ | refine r_guard_run rfl rfl ?_ | refine r_guard_skip rfl rfl rfl ?_ | refine r_pick_true rfl (by conv => (lhs; whnf)) ?_ | refine r_pick_false rfl (by conv => (lhs; whnf)) ?_ | refine r_not rfl ?_)
              exact ⟨by (repeat (first | refine agree_upd rfl ?_ | exact agree_over | refine agree_sub rfl ?_ | exact agree_refl | refine agree_base rfl ?_ | refine agree_base' rfl ?_)), congrArg Value.bool (tst_true (Or.inr ⟨rfl, fun h => hd h.1⟩)).symm, k5⟩
    rintro u5 w5 ⟨h50, k5⟩
    refine wp_learn 50 h50 ?_
    clear h50
    replace hS := hS.to k5
    replace hg := hg.to k5
    replace k := k.trans k5
    clear k5
    skip
    refine wp_cond_dec rfl ?_ ?_ <;> intro hb0
    · have hq := form_bad hf hb0
      repeat (first | refine wp_seq_region ?_ | refine wp_region ?_)
      refine r_build0 (cs := [.bool false, .slice none 0 0, .slice none 0 0]) rfl ?_
      refine r_store3 rfl (by conv => (lhs; whnf)) hg rfl rfl rfl rfl ?_
      intro w_5 k_5 h_5
      replace hS := hS.to k_5
      replace k : Ext w w_5 := k.past k_5 hsg
      replace hg := h_5
      clear h_5 k_5
      repeat (first | refine r_assign (by conv => (lhs; whnf)) ?_ | refine r_nil ?_ | refine q_then ?_ | refine wp_ret ?_ | refine q_then_ret ?_)
      exact end2 rfl (resV_agg (by conv => (lhs; whnf)) hg rfl) (resV_tmp (by conv => (lhs; whnf))) ⟨k, .inr (.inl ⟨by omega, hq, rfl⟩)⟩
    · have hbad : ¬ ∀ z, a ≠ Lib.itoa z := fun h => hb0 (.inl h)
      have hb2 : ¬ (has = true ∧ ¬ (DecL b ∧ b ≠ [48] ∧ b ≠ [49])) := fun h => hb0 (.inr h)
      have hgood : DecL (Dgs a) ∧ (NegS a → (Dgs a).head? ≠ some 48) := (num_iff a).1 (Classical.byContradiction fun h => hbad fun z hz => h ⟨z, hz⟩)
      have hav : a = Lib.itoa (numV a) := num_val hgood.1 hgood.2
      obtain ⟨hnv1, hnv2⟩ := numV_parts a
      obtain ⟨d, hd⟩ : ∃ d, d = if has = true then digV b else 0 := ⟨_, rfl⟩
      have hparts : Parts s (numV a) d := by
        rcases hf with ⟨rfl, h1, rfl, rfl⟩ | ⟨rfl, rfl, h1⟩
        · exact .inl ⟨by rw [hd, if_neg (by decide)], h1, hav⟩
        · have h2 : DecL b ∧ b ≠ [48] ∧ b ≠ [49] := Classical.byContradiction fun h => hb2 ⟨rfl, h⟩
          rw [if_pos rfl] at hd
          refine .inr ⟨by rw [hd]; exact dec_two h2.1 h2.2.1 h2.2.2, a, h1, ?_, hav⟩
          rw [hd, dec_digV h2.1]
      have hbd : has = true → ∀ c ∈ b, Dig c := fun h => (Classical.byContradiction (p := DecL b) fun h2 => hb2 ⟨h, fun h3 => h2 h3.1⟩).2.1
      have hls : dl d ≤ 7778 := by
        rw [hd]
        split
        · rename_i h
          exact dl_of_lt (digV_lt (hbd h)) (by omega)
        · rw [dl_zero]
          omega
      have hln : zl (numV a) ≤ 7778 := zl_itoaP hav (by omega)
      have hlk : dl (denK d) ≤ 7778 := by
        unfold denK
        split
        · exact Nat.le_trans (dl_le (k := 1) (by decide)) (by decide)
        · exact hls
      repeat (first | refine wp_seq_region ?_ | refine wp_region ?_ | refine r_move (by conv => (lhs; whnf)) ?_ | refine wp_skip ?_)
      refine r_call (parsed_c hS hgood.1.2.1 (by omega)) rfl ?_
      rintro v_5 w_5 ⟨k_5, h1⟩
      replace hS := hS.to k_5
      replace hg := hg.to k_5
      replace k := k.trans k_5
      clear k_5
      refine r_call (signed_c (p := NegS a) (n := digV (Dgs a)) (numV a) h1 hnv1 hnv2) rfl ?_
      rintro v_6 w_6 ⟨k_6, m, rfl, h2⟩
      replace hS := hS.to k_6
      replace hg := hg.to k_6
      replace h1 := h1.to k_6
      replace k := k.trans k_6
      clear k_6
      refine r_build2of3 (by conv => (lhs; whnf)) ?_
      skip
      refine r_new (zs := [.bool false, .slice none 0 0, .slice none 0 0]) (us := [.bool (tst (numV a < 0)), m, .slice none 0 0]) rfl (fun _ => rfl) rfl rfl (ones3 rfl h2.one rfl) ?_
      intro w_7 g9 k_7 hs_7 hg9
      have hsg9 : w.heap.size ≤ g9 := Nat.le_trans k.size hs_7
      have ne_g_g9 : g ≠ g9 := fun e => by have := hg.lt; omega
      clear hs_7
      replace hS := hS.to k_7
      replace hg := hg.to k_7
      replace h2 := h2.to k_7
      replace k := k.trans k_7
      clear k_7
      have hgg : g ≠ g9 := ne_g_g9
      repeat (first | refine wp_seq_region ?_ | refine wp_seq_seq ?_ | refine wp_region ?_ | refine r_move (by conv => (lhs; whnf)) ?_ | refine r_nil ?_ | refine q_then ?_)
      first | refine wp_seq_block ?_ | refine wp_thenB ?_ | refine wp_thenBB ?_ | skip
      refine wp_mid [(58, 60)] (fun ρ w' => ∃ bt, Up S w' ∧ Ext w w' ∧ Blk w' g 42 [.bool false, .slice none 0 0, .slice none 0 0] ∧ Blk w' g9 42 [.bool (tst (numV a < 0)), m, bt] ∧ NatV S 157 .u32 w' m (numV a).natAbs ∧ NatV S 157 .u32 w' bt d) ?_ ?_
      · cases has
        · rw [if_neg (by decide)] at hd
          subst hd
          repeat (first | refine q_then ?_ | refine wp_skip ?_ | refine wp_cond_false rfl ?_)
          exact ⟨by (repeat (first | refine agree_upd rfl ?_ | exact agree_over | refine agree_sub rfl ?_ | exact agree_refl | refine agree_base rfl ?_ | refine agree_base' rfl ?_)), _, hS, k, hg, hg9, h2, .nil⟩
        · rw [if_pos rfl] at hd
          subst hd
          repeat (first | refine wp_region ?_ | refine r_move (by conv => (lhs; whnf)) ?_ | refine wp_cond_true rfl ?_)
          refine r_call (parsed_c hS (hbd rfl) (by omega)) rfl ?_
          rintro v_8 w_8 ⟨k_8, h3⟩
          replace hS := hS.to k_8
          replace hg := hg.to k_8
          replace h2 := h2.to k_8
          replace hg9 := hg9.to k_8
          replace k := k.trans k_8
          clear k_8
          repeat (first | refine r_field rfl ?_)
          refine r_store rfl rfl hg9 (show 0 + 2 < 3 by omega) h3.one ?_
          intro w_9 k_9 h_9
          replace hS := hS.to k_9
          replace hg := hg.wr k_9 (by omega)
          replace h2 := h2.wrT k_9 hg9 (by decide)
          replace h3 := h3.wrT k_9 hg9 (by decide)
          replace k : Ext w w_9 := k.past k_9 hsg9
          replace hg9 := h_9
          clear h_9 k_9
          repeat (first | refine r_nil ?_ | refine q_then ?_)
          exact ⟨by (repeat (first | refine agree_upd rfl ?_ | exact agree_over | refine agree_sub rfl ?_ | exact agree_refl | refine agree_base rfl ?_ | refine agree_base' rfl ?_)), _, hS, k, hg, hg9, h2, h3⟩
      rintro u6 w6 ⟨bt, hS, k, hg, hg9, h2, h3⟩
      have hm1 := h2.one
      have hb1 := h3.one
      repeat (first | refine wp_seq_region ?_ | refine wp_seq_seq ?_)
      refine wp_drawn 7 (by kernel_rfl) (by kernel_rfl) ?_
      apply ob_step
      · intro x w1 k1 hd
        refine r_load_all rfl (hg9.to k1) rfl ?_
        refine r_nil ?_
        exact ob_eq
      refine ob_step (e := natE S 157 .u32 (denK d)) ?_ ?_
      · intro x w1 k1 hd
        refine r_call (den0_c (x := .bool (tst (numV a < 0))) (m := m) (b := bt) (hS.to k1) rfl hm1 (h3.to k1)) rfl ?_
        rintro v2 w2 ⟨k2, h2⟩
        exact r_nil (ob_of k2 h2)
      apply ob_step
      · intro x w1 k1 hd
        refine r_field rfl ?_
        refine r_nil ?_
        exact ob_eq
      apply ob_step
      · intro x w1 k1 hd
        refine r_field rfl ?_
        refine r_nil ?_
        exact ob_eq
      apply ob_step
      · intro x w1 k1 hd
        refine r_load_blk rfl (hg9.to k1) rfl ?_
        refine r_nil ?_
        exact ob_eq
      refine ob_step (e := natE S 157 .u32 (Nat.gcd (denK d) (numV a).natAbs)) ?_ ?_
      · intro x w1 k1 hd
        refine r_call (gcd_c (hS.to k1) hd.2.2.2.1 (h2.to k1) (by omega) (Nat.le_trans hln (by decide))) rfl ?_
        rintro v2 w2 ⟨k2, h2⟩
        exact r_nil (ob_of k2 h2)
      refine ob_step (e := Ent.eq (.bool (tst (Nat.gcd (denK d) (numV a).natAbs = 1)))) ?_ ?_
      · intro x w1 k1 hd
        refine r_call (isOne_e (S := S) hd.1) rfl ?_
        rintro v2 w2 ⟨rfl, k2⟩
        exact r_nil (ob_eqv (rfl) k2)
      refine ob_nil (ob_end ?_)
      intro x w7 k7 _
      replace hS := hS.to k7
      replace hg := hg.to k7
      replace hg9 := hg9.to k7
      replace h2 := h2.to k7
      replace h3 := h3.to k7
      replace k := k.trans k7
      clear k7
      repeat (first | refine r_nil ?_ | refine q_then ?_ | refine r_notB rfl ?_)
      refine wp_cond_dec rfl ?_ ?_ <;> intro hgc
      · have hq := parts_bad hparts hgc
        repeat (first | refine wp_seq_region ?_ | refine wp_region ?_)
        refine r_build0 (cs := [.bool false, .slice none 0 0, .slice none 0 0]) rfl ?_
        refine r_store3 rfl (by conv => (lhs; whnf)) hg rfl rfl rfl rfl ?_
        intro w_9 k_9 h_9
        replace hS := hS.to k_9
        replace hg9 := hg9.wr k_9 (by omega)
        replace h2 := h2.wrT k_9 hg (by decide)
        replace h3 := h3.wrT k_9 hg (by decide)
        replace k : Ext w w_9 := k.past k_9 hsg
        replace hg := h_9
        clear h_9 k_9
        repeat (first | refine r_assign (by conv => (lhs; whnf)) ?_ | refine r_nil ?_ | refine q_then ?_ | refine wp_ret ?_ | refine q_then_ret ?_)
        exact end2 rfl (resV_agg (by conv => (lhs; whnf)) hg rfl) (resV_tmp (by conv => (lhs; whnf))) ⟨k, .inr (.inl ⟨by omega, hq, rfl⟩)⟩
      · obtain ⟨q, hq1, hq2, hq3⟩ := parts_good hparts (Classical.not_not.1 hgc)
        have hq : RatV S w7 (.agg #[.bool (tst (numV a < 0)), m, bt]) q := by
          rw [← hq1]
          refine ⟨m, bt, rfl, ?_, ?_⟩
          · rw [hq1]; exact h2
          · rw [hq2]; exact h3
        repeat (first | refine r_load_all rfl hg9 rfl ?_ | refine wp_seq_region ?_ | refine wp_region ?_ | refine wp_skip ?_ | refine r_func ?_)
        refine r_call (rattempt_c hS hq) rfl ?_
        rintro v_9 w_9 ⟨k_9, r, e, rfl, hor⟩
        replace hS := hS.to k_9
        replace hg := hg.to k_9
        replace k := k.trans k_9
        clear k_9
        rcases hor with ⟨hf, rfl, mr, br, rfl, hm, hb⟩ | ⟨hf, rfl, mr, br, rfl, hm, hb⟩
        · skip
          repeat (first | refine r_extract rfl rfl ?_)
          refine r_store3 rfl rfl hg rfl rfl hm.one hb.one ?_
          intro w_10 k_10 h_10
          replace hS := hS.to k_10
          replace hm := hm.wrT k_10 hg (by decide)
          replace hb := hb.wrT k_10 hg (by decide)
          replace k : Ext w w_10 := k.past k_10 hsg
          replace hg := h_10
          clear h_10 k_10
          repeat (first | refine r_assign (by conv => (lhs; whnf)) ?_ | refine r_nil ?_ | refine q_then ?_ | refine wp_ret ?_)
          exact end2 rfl (resV_agg (by conv => (lhs; whnf)) hg rfl) (resV_tmp (by conv => (lhs; whnf))) ⟨k, .inr (.inr ⟨by omega, q, hq3, _, _, rfl, .inl ⟨hf, rfl, mr, br, rfl, hm, hb⟩⟩)⟩
        · skip
          repeat (first | refine r_extract rfl rfl ?_)
          refine r_store3 rfl rfl hg rfl rfl hm.one hb.one ?_
          intro w_10 k_10 h_10
          replace hS := hS.to k_10
          replace hm := hm.wrT k_10 hg (by decide)
          replace hb := hb.wrT k_10 hg (by decide)
          replace k : Ext w w_10 := k.past k_10 hsg
          replace hg := h_10
          clear h_10 k_10
          repeat (first | refine r_assign (by conv => (lhs; whnf)) ?_ | refine r_nil ?_ | refine q_then ?_ | refine wp_ret ?_)
          exact end2 rfl (resV_agg (by conv => (lhs; whnf)) hg rfl) (resV_tmp (by conv => (lhs; whnf))) ⟨k, .inr (.inr ⟨by omega, q, hq3, _, _, rfl, .inr ⟨hf, rfl, mr, br, rfl, hm, hb⟩⟩)⟩
end Go.Proofs.YtpheooheinfbgaaGreatDoor
end
section
set_option linter.unusedVariables false
set_option linter.unusedSimpArgs false
namespace Go.Proofs.YtpheooheinfbgaaGreatDoor
open Go Go.RowKit
theorem agree_base {W : List (Nat × Nat)} {ρ ρ' : Fr} {d : Nat} {v : Value} (hd : inW W d = true) (h : Agree W ρ ρ') : Agree W (upd ρ d v) ρ' := by
  intro i hi
  rw [h i hi, upd_ne]
  cases hb : Nat.beq i d with
  | false => rfl
  | true => rw [Nat.eq_of_beq_eq_true hb, hd] at hi; cases hi
theorem mkRat_le (z : Int) {d : Nat} (hd : 0 < d) : (mkRat z d).num.natAbs ≤ z.natAbs ∧ (mkRat z d).den ≤ d := by
  obtain ⟨h1, h2, _, _⟩ := mkRat_parts z hd
  rw [h1, h2]
  exact ⟨Nat.div_le_self .., Nat.div_le_self ..⟩
theorem rl_mul {a b : Rat} {n m : Nat} (ha : rl a n) (hb : rl b m) : rl (a * b) (n + m) := by
  rw [rat_times]
  obtain ⟨h1, h2⟩ := mkRat_le (a.num * b.num) (Nat.mul_pos a.den_pos b.den_pos)
  have h3 := dl_mul a.num.natAbs b.num.natAbs
  have h4 := dl_mul a.den b.den
  rw [Int.natAbs_mul] at h1
  obtain ⟨a1, a2⟩ := ha
  obtain ⟨b1, b2⟩ := hb
  exact ⟨Nat.le_trans (dl_mono h1) (by omega), Nat.le_trans (dl_mono h2) (by omega)⟩
theorem rl_mono {a : Rat} {n m : Nat} (h : rl a n) (hm : n ≤ m) : rl a m := ⟨Nat.le_trans h.1 hm, Nat.le_trans h.2 hm⟩
end Go.Proofs.YtpheooheinfbgaaGreatDoor
end
section
set_option linter.unusedVariables false
set_option linter.unusedSimpArgs false
namespace Go.Proofs.YtpheooheinfbgaaGreatDoor
open Go Go.RowKit
theorem rl_add {a b : Rat} {n m : Nat} (ha : rl a n) (hb : rl b m) : rl (a + b) (n + m + 1) := by
  rw [Rat.add_def']
  obtain ⟨h1, h2⟩ := mkRat_le (a.num * b.den + b.num * a.den) (Nat.mul_pos a.den_pos b.den_pos)
  have h3 := zl_add (a.num * b.den) (b.num * a.den)
  have h4 := zl_mul a.num b.den
  have h5 := zl_mul b.num a.den
  have h6 := dl_mul a.den b.den
  have h7 : zl (a.den : Int) = dl a.den := by unfold zl; rw [Int.natAbs_natCast]
  have h8 : zl (b.den : Int) = dl b.den := by unfold zl; rw [Int.natAbs_natCast]
  obtain ⟨a1, a2⟩ := ha
  obtain ⟨b1, b2⟩ := hb
  have a1' : zl a.num ≤ n := a1
  have b1' : zl b.num ≤ m := b1
  refine ⟨Nat.le_trans (dl_mono h1) ?_, Nat.le_trans (dl_mono h2) (by omega)⟩
  show zl _ ≤ _
  omega
theorem rl_neg {a : Rat} {n : Nat} (ha : rl a n) : rl (-a) n := by
  refine ⟨?_, ?_⟩
  · rw [Rat.neg_num, Int.natAbs_neg]; exact ha.1
  · rw [Rat.neg_den]; exact ha.2
theorem rl_sub {a b : Rat} {n m : Nat} (ha : rl a n) (hb : rl b m) : rl (a - b) (n + m + 1) := by
  rw [Rat.sub_eq_add_neg]
  exact rl_add ha (rl_neg hb)
theorem rl_div {a b : Rat} {n m : Nat} (ha : rl a n) (hb : rl b m) (hb0 : b.num ≠ 0) : rl (a / b) (n + m) := by
  rw [rat_over a b hb0]
  obtain ⟨h1, h2⟩ := mkRat_le (a.num * b.den * b.num.sign) (d := a.den * b.num.natAbs) (Nat.mul_pos a.den_pos (by omega))
  rw [over_abs a b hb0] at h1
  have h4 := dl_mul a.num.natAbs b.den
  have h6 := dl_mul a.den b.num.natAbs
  obtain ⟨a1, a2⟩ := ha
  obtain ⟨b1, b2⟩ := hb
  exact ⟨Nat.le_trans (dl_mono h1) (by omega), Nat.le_trans (dl_mono h2) (by omega)⟩
def DoneOk (x : Rat) (e : Int) (q : Rat) : Prop := (Fits q ∧ e = 0 ∧ x = q) ∨ (¬ Fits q ∧ e = 11 ∧ x = 0)
end Go.Proofs.YtpheooheinfbgaaGreatDoor
end
section
set_option linter.unusedVariables false
namespace Go.Proofs.YtpheooheinfbgaaGreatDoor
open Go
@[ext] structure T3 where
  x : Rat
  y : Rat
  z : Rat
namespace T3
def dot (p q : T3) : Rat := p.x * q.x + p.y * q.y + p.z * q.z
def cross (p q : T3) : T3 := ⟨p.y * q.z - p.z * q.y, p.z * q.x - p.x * q.z, p.x * q.y - p.y * q.x⟩
def None (p : T3) : Prop := p.x = 0 ∧ p.y = 0 ∧ p.z = 0
instance (p : T3) : Decidable p.None := by unfold None; exact inferInstance
def lead (p : T3) : Rat := if p.x ≠ 0 then p.x else if p.y ≠ 0 then p.y else p.z
def over (p : T3) (k : Rat) : T3 := ⟨p.x / k, p.y / k, p.z / k⟩
def normal (p : T3) : T3 := p.over p.lead
theorem lead_ne {p : T3} (h : ¬ p.None) : p.lead ≠ 0 := by
  unfold lead
  unfold None at h
  split
  · assumption
  · split
    · assumption
    · grind
def Same (p q : T3) : Prop := (p.cross q).None
def Flat (p q r : T3) : Prop := (p.cross q).dot r = 0
instance (p q : T3) : Decidable (Same p q) := by unfold Same; exact inferInstance
instance (p q r : T3) : Decidable (Flat p q r) := by unfold Flat; exact inferInstance
theorem flat_iff {p q r : T3} : p.dot (q.cross r) = (p.cross q).dot r := by
  simp only [dot, cross]
  grind
end T3
def tl (p : T3) (n : Nat) : Prop := rl p.x n ∧ rl p.y n ∧ rl p.z n
theorem tl_up {p : T3} {m n : Nat} (h : tl p m) (k : m ≤ n) : tl p n := ⟨rl_mono h.1 k, rl_mono h.2.1 k, rl_mono h.2.2 k⟩
theorem tl_cross {p q : T3} {m n : Nat} (hp : tl p m) (hq : tl q n) : tl (p.cross q) (2 * (m + n) + 1) :=
  ⟨rl_mono (rl_sub (rl_mul hp.2.1 hq.2.2) (rl_mul hp.2.2 hq.2.1)) (by omega), rl_mono (rl_sub (rl_mul hp.2.2 hq.1) (rl_mul hp.1 hq.2.2)) (by omega), rl_mono (rl_sub (rl_mul hp.1 hq.2.1) (rl_mul hp.2.1 hq.1)) (by omega)⟩
theorem dl_mono' {a b : Nat} (h : a ≤ b) : dl a ≤ dl b := dl_le (Nat.lt_of_le_of_lt h (lt_pow_dl b))
theorem rl_ratio {a c : Int} {n : Nat} (ha : zl a ≤ n) (hc : zl c ≤ n) (hn : 1 ≤ n) : rl ((a : Rat) / (c : Rat)) n := by
  by_cases h : c = 0
  · subst h
    rw [show ((0 : Int) : Rat) = 0 from rfl, Rat.div_def, Rat.inv_zero, Rat.mul_zero]
    exact ⟨dl_le (show 0 < 1000000000 ^ n from Nat.pow_pos (by decide)), Nat.le_trans (dl_le (k := 1) (show 1 < 1000000000 ^ 1 by decide)) hn⟩
  · have h1 : ((c : Int) : Rat).num ≠ 0 := h
    rw [rat_over _ _ h1]
    show rl (mkRat (a * (1 : Nat) * c.sign) (1 * c.natAbs)) n
    rw [Nat.one_mul]
    have hp : 0 < c.natAbs := by omega
    obtain ⟨e1, e2, _, _⟩ := mkRat_parts (a * (1 : Nat) * c.sign) hp
    have e3 : (a * (1 : Nat) * c.sign).natAbs = a.natAbs := by
      rw [Int.natAbs_mul, Int.natAbs_mul, Int.natAbs_sign_of_ne_zero h]
      simp
    refine ⟨?_, ?_⟩
    · rw [e1, e3]; exact Nat.le_trans (dl_mono' (Nat.div_le_self _ _)) ha
    · rw [e2]; exact Nat.le_trans (dl_mono' (Nat.div_le_self _ _)) hc
def il (p : T3) (n : Nat) : Prop := ∃ (k : Rat) (a b c : Int), k ≠ 0 ∧ p = ⟨k * a, k * b, k * c⟩ ∧ zl a ≤ n ∧ zl b ≤ n ∧ zl c ≤ n
theorem zl_mul' {a b : Int} {m n : Nat} (ha : zl a ≤ m) (hb : zl b ≤ n) : zl (a * b) ≤ m + n := by
  refine dl_le ?_
  rw [Int.natAbs_mul, Nat.pow_add]
  exact Nat.mul_lt_mul'' (Nat.lt_of_lt_of_le (lt_pow_dl _) (pow_mono_b ha)) (Nat.lt_of_lt_of_le (lt_pow_dl _) (pow_mono_b hb))
theorem mul_den (a : Rat) : a * (a.den : Rat) = (a.num : Rat) := by
  have h : a = Rat.divInt a.num a.den := by rw [Rat.divInt_ofNat]; exact (Rat.mkRat_self a).symm
  rw [Rat.divInt_eq_div, Rat.intCast_natCast] at h
  have d : (a.den : Rat) ≠ 0 := by have := a.den_pos; exact fun h => by have := Rat.natCast_eq_zero_iff.1 h; omega
  grind
theorem il_of_tl {p : T3} {n : Nat} (h : tl p n) : il p (3 * n) := by
  obtain ⟨⟨h1, h2⟩, ⟨h3, h4⟩, ⟨h5, h6⟩⟩ := h
  have d1 : (p.x.den : Rat) ≠ 0 := by have := p.x.den_pos; exact fun h => by have := Rat.natCast_eq_zero_iff.1 h; omega
  have d2 : (p.y.den : Rat) ≠ 0 := by have := p.y.den_pos; exact fun h => by have := Rat.natCast_eq_zero_iff.1 h; omega
  have d3 : (p.z.den : Rat) ≠ 0 := by have := p.z.den_pos; exact fun h => by have := Rat.natCast_eq_zero_iff.1 h; omega
  have e1 : p.x * (p.x.den : Rat) = (p.x.num : Rat) := mul_den p.x
  have e2 : p.y * (p.y.den : Rat) = (p.y.num : Rat) := mul_den p.y
  have e3 : p.z * (p.z.den : Rat) = (p.z.num : Rat) := mul_den p.z
  refine ⟨1 / ((p.x.den : Rat) * p.y.den * p.z.den), p.x.num * (p.y.den : Int) * (p.z.den : Int), p.y.num * (p.x.den : Int) * (p.z.den : Int), p.z.num * (p.x.den : Int) * (p.y.den : Int), ?_, ?_, ?_, ?_, ?_⟩
  · grind
  · ext <;> simp only [Rat.intCast_mul, Rat.intCast_natCast] <;> grind
  all_goals
    refine Nat.le_trans (zl_mul' (zl_mul' (m := n) (n := n) ?_ ?_) (n := n) ?_) (by omega) <;> assumption
theorem tl_normal {p : T3} {n : Nat} (h : il p n) (hn : 1 ≤ n) : tl p.normal n := by
  obtain ⟨k, a, b, c, h1, h2, h3, h4, h5⟩ := h
  have key : ∃ l : Int, zl l ≤ n ∧ p.lead = k * l := by
    have ex : p.x = k * a := congrArg T3.x h2
    have ey : p.y = k * b := congrArg T3.y h2
    have ez : p.z = k * c := congrArg T3.z h2
    unfold T3.lead
    split
    · exact ⟨a, h3, ex⟩
    · split
      · exact ⟨b, h4, ey⟩
      · exact ⟨c, h5, ez⟩
  obtain ⟨l, hl, el⟩ := key
  have ek : ∀ z : Int, k * (z : Rat) / (k * (l : Rat)) = (z : Rat) / (l : Rat) := fun z => by
    by_cases h0 : (l : Rat) = 0
    · rw [h0, Rat.mul_zero, Rat.div_def, Rat.div_def, Rat.inv_zero, Rat.mul_zero, Rat.mul_zero]
    · grind
  have ex : p.normal.x = (a : Rat) / (l : Rat) := by rw [← ek]; simp only [T3.normal, T3.over, el]; rw [congrArg T3.x h2]
  have ey : p.normal.y = (b : Rat) / (l : Rat) := by rw [← ek]; simp only [T3.normal, T3.over, el]; rw [congrArg T3.y h2]
  have ez : p.normal.z = (c : Rat) / (l : Rat) := by rw [← ek]; simp only [T3.normal, T3.over, el]; rw [congrArg T3.z h2]
  exact ⟨ex ▸ rl_ratio h3 hl hn, ey ▸ rl_ratio h4 hl hn, ez ▸ rl_ratio h5 hl hn⟩
end Go.Proofs.YtpheooheinfbgaaGreatDoor
end
section
set_option linter.unusedVariables false
set_option linter.unusedSimpArgs false
namespace Go.Proofs.YtpheooheinfbgaaGreatDoor
open Go Go.RowKit
inductive Ch where
  | val (x : Value)
  | ag (n : Nat) (x : Value)
  | int (k : IntKind) (z : Int)
  | lit (k : IntKind) (z : Int)
  | bb (x : Bool)
  | tp (p : Prop)
  | ptr (b o : Nat)
  | fn (g : FuncId) (cap : List (Nat ⊕ Value))
  | sl (x : Value) (m : Nat)
  | str (l : List UInt8)
  | win (b o m c : Nat)
def capDen (β : Nat → Nat) : Nat ⊕ Value → Value
  | .inl b => .pointer (some ⟨β b, 0, none⟩)
  | .inr x => x
noncomputable def Ch.den (β : Nat → Nat) : Ch → Value
  | .val x => x
  | .ag _ x => x
  | .int k z => .int k z
  | .lit k z => .int k z
  | .bb x => .bool x
  | .tp p => .bool (tst p)
  | .ptr b o => .pointer (some ⟨β b, o, none⟩)
  | .fn g cap => .func (.func g) #[] (cap.map (capDen β)).toArray
  | .sl x _ => x
  | .str l => strV l
  | .win b o m c => .slice (some ⟨β b, o, none⟩) m c
noncomputable def Ch.cells (β : Nat → Nat) : Ch → List Value
  | .ag _ x => x.cells.toList
  | c => [c.den β]
def Ch.size : Ch → Nat
  | .ag n _ => n
  | _ => 1
def Ch.Ok (m : Nat) : Ch → Prop
  | .val x => x.oneCell' = true
  | .ag n x => ∃ cs : List Value, x = .agg cs.toArray ∧ cs.length = n ∧ ∀ u ∈ cs, u.oneCell' = true
  | .ptr b _ => b < m
  | .fn _ cap => ∀ b, Sum.inl b ∈ cap → b < m
  | .sl x l => ∃ a c, x = .slice a l c ∧ l ≤ c
  | .win b _ _ _ => b < m
  | _ => True
noncomputable def cellsL (β : Nat → Nat) (l : List Ch) : List Value := l.flatMap (Ch.cells β)
def sizeL : List Ch → Nat
  | [] => 0
  | c :: r => c.size + sizeL r
inductive SV where
  | one (c : Ch)
  | agg (l : List Ch)
  | tup (l : List (Bool × List Ch))
  | und
noncomputable def partDen (β : Nat → Nat) : Bool × List Ch → Value
  | (true, l) => .agg (cellsL β l).toArray
  | (false, c :: _) => c.den β
  | (false, []) => undef
noncomputable def SV.den (β : Nat → Nat) : SV → Value
  | .one c => c.den β
  | .agg l => .agg (cellsL β l).toArray
  | .tup l => .tuple (l.map (partDen β)).toArray
  | .und => undef
def SV.Ok (m : Nat) : SV → Prop
  | .one c => c.Ok m
  | .agg l => ∀ c ∈ l, c.Ok m
  | .tup l => ∀ p ∈ l, ∀ c ∈ p.2, c.Ok m
  | .und => True
def SV.chunks : SV → Option (List Ch)
  | .one c => some [c]
  | .agg l => some l
  | _ => none
section
variable {m m' : Nat} {β β' : Nat → Nat}
theorem Ch.Ok.le {c : Ch} (h : c.Ok m) (hm : m ≤ m') : c.Ok m' := by
  cases c with
  | ptr b o => exact Nat.lt_of_lt_of_le h hm
  | fn g cap => exact fun b hb => Nat.lt_of_lt_of_le (h b hb) hm
  | win b o m c => exact Nat.lt_of_lt_of_le h hm
  | _ => exact h
theorem SV.Ok.le {s : SV} (h : s.Ok m) (hm : m ≤ m') : s.Ok m' := by
  cases s with
  | one c => exact Ch.Ok.le (c := c) h hm
  | agg l => exact fun c hc => (h c hc).le hm
  | tup l => exact fun p hp c hc => (h p hp c hc).le hm
  | und => trivial
theorem Ch.cells_ok {c : Ch} (h : c.Ok m) : (c.cells β).length = c.size ∧ ∀ u ∈ c.cells β, u.oneCell' = true := by
  cases c with
  | val x => exact ⟨rfl, fun u hu => by rw [List.mem_singleton.1 hu]; exact h⟩
  | ag n x =>
    obtain ⟨cs, rfl, hl, h1⟩ := h
    exact ⟨by simpa [Ch.cells, Value.cells, Ch.size] using hl, fun u hu => h1 u (by simpa [Ch.cells, Value.cells] using hu)⟩
  | sl x l =>
    obtain ⟨a, c, rfl, _⟩ := h
    exact ⟨rfl, fun u hu => by rw [List.mem_singleton.1 hu]; rfl⟩
  | _ => exact ⟨rfl, fun u hu => by rw [List.mem_singleton.1 hu]; rfl⟩
theorem Ch.cells_den {c : Ch} (h : c.Ok m) : (c.den β).cells = (c.cells β).toArray := by
  cases c with
  | val x => exact cells_one h
  | ag n x => obtain ⟨cs, rfl, hl, h1⟩ := h; simp [Ch.den, Ch.cells]
  | sl x l => obtain ⟨a, c, rfl, _⟩ := h; rfl
  | _ => rfl
theorem Ch.den_congr {c : Ch} (hb : ∀ i, i < m → β i = β' i) (h : c.Ok m) : c.den β = c.den β' := by
  cases c with
  | ptr b o => simp only [Ch.den]; rw [hb b h]
  | fn g cap =>
    simp only [Ch.den]
    congr 2
    refine List.map_congr_left fun x hx => ?_
    cases x with
    | inl b => simp only [capDen]; rw [hb b (h b hx)]
    | inr x => rfl
  | win b o n c => simp only [Ch.den]; rw [hb b h]
  | _ => rfl
theorem Ch.cells_congr {c : Ch} (hb : ∀ i, i < m → β i = β' i) (h : c.Ok m) : c.cells β = c.cells β' := by
  cases c with
  | ag n x => rfl
  | _ => exact congrArg (fun x => [x]) (Ch.den_congr hb h)
theorem cellsL_congr {l : List Ch} (hb : ∀ i, i < m → β i = β' i) (h : ∀ c ∈ l, c.Ok m) : cellsL β l = cellsL β' l := by
  induction l with
  | nil => rfl
  | cons c r ih =>
    simp only [cellsL, List.flatMap_cons] at ih ⊢
    rw [Ch.cells_congr hb (h c (List.mem_cons_self ..)), ih fun c hc => h c (List.mem_cons_of_mem _ hc)]
theorem SV.den_congr {s : SV} (hb : ∀ i, i < m → β i = β' i) (h : s.Ok m) : s.den β = s.den β' := by
  cases s with
  | one c => exact Ch.den_congr hb h
  | agg l => simp only [SV.den]; rw [cellsL_congr hb h]
  | tup l =>
    simp only [SV.den]
    congr 2
    refine List.map_congr_left fun p hp => ?_
    have h1 := h p hp
    obtain ⟨g, l⟩ := p
    cases g with
    | true => simp only [partDen]; rw [cellsL_congr hb h1]
    | false =>
      cases l with
      | nil => rfl
      | cons c r => exact Ch.den_congr hb (h1 c (List.mem_cons_self ..))
  | und => rfl
theorem cellsL_len {l : List Ch} (h : ∀ c ∈ l, c.Ok m) : (cellsL β l).length = sizeL l := by
  induction l with
  | nil => rfl
  | cons c r ih =>
    have h1 := (Ch.cells_ok (β := β) (h c (List.mem_cons_self ..))).1
    have h2 := ih fun c hc => h c (List.mem_cons_of_mem _ hc)
    simp only [cellsL, List.flatMap_cons, List.length_append, sizeL] at h2 ⊢
    omega
theorem cellsL_one {l : List Ch} (h : ∀ c ∈ l, c.Ok m) : ∀ u ∈ cellsL β l, u.oneCell' = true := by
  intro u hu
  obtain ⟨c, hc, hu⟩ := List.mem_flatMap.1 hu
  exact (Ch.cells_ok (h c hc)).2 u hu
theorem SV.chunks_ok {s : SV} {l : List Ch} (h : s.chunks = some l) (ok : s.Ok m) : (s.den β).cells = (cellsL β l).toArray ∧ ∀ c ∈ l, c.Ok m := by
  cases s with
  | one c =>
    simp only [SV.chunks, Option.some.injEq] at h
    subst h
    exact ⟨by simp only [SV.den, cellsL, List.flatMap_cons, List.flatMap_nil, List.append_nil]; exact Ch.cells_den ok, fun c hc => by rw [List.mem_singleton.1 hc]; exact ok⟩
  | agg l' =>
    simp only [SV.chunks, Option.some.injEq] at h
    subst h
    exact ⟨rfl, ok⟩
  | tup l' => cases h
  | und => cases h
end
def chTake : List Ch → Nat → Option (List Ch)
  | _, 0 => some []
  | [], _ + 1 => none
  | c :: r, s => bif Nat.ble c.size s then (chTake r (s - c.size)).map (c :: ·) else none
def ldL : List Ch → Nat → Nat → Option (List Ch)
  | l, 0, s => chTake l s
  | [], _ + 1, _ => none
  | c :: r, o, s => bif Nat.ble c.size o then ldL r (o - c.size) s else none
def chDrop : List Ch → Nat → Option (List Ch)
  | l, 0 => some l
  | [], _ + 1 => none
  | c :: r, s => bif Nat.ble c.size s then chDrop r (s - c.size) else none
def stL : List Ch → Nat → Nat → List Ch → Option (List Ch)
  | l, 0, s, new => (chDrop l s).map (new ++ ·)
  | [], _ + 1, _, _ => none
  | c :: r, o, s, new => bif Nat.ble c.size o then (stL r (o - c.size) s new).map (c :: ·) else none
def mkV : Bool → List Ch → Option SV
  | true, [.ag n x] => some (.one (.ag n x))
  | true, l => some (.agg l)
  | false, [.ag _ _] => none
  | false, [c] => some (.one c)
  | false, _ => none
section
variable {m : Nat} {β : Nat → Nat}
theorem chTake_ok : ∀ {l : List Ch} {s : Nat} {l' : List Ch}, chTake l s = some l' → (∀ c ∈ l, c.Ok m) → (cellsL β l).take s = cellsL β l' ∧ (cellsL β l').length = s ∧ ∀ c ∈ l', c.Ok m := by
  intro l
  induction l with
  | nil =>
    intro s l' h hok
    cases s with
    | zero => simp only [chTake, Option.some.injEq] at h; subst h; exact ⟨rfl, rfl, hok⟩
    | succ s => cases h
  | cons c r ih =>
    intro s l' h hok
    cases s with
    | zero => simp only [chTake, Option.some.injEq] at h; subst h; exact ⟨rfl, rfl, fun _ hc => by cases hc⟩
    | succ s =>
      simp only [chTake] at h
      cases hb : Nat.ble c.size (s + 1) with
      | false => rw [hb] at h; cases h
      | true =>
        rw [hb] at h
        have hle := Nat.le_of_ble_eq_true hb
        have hc := (Ch.cells_ok (β := β) (hok c (List.mem_cons_self ..))).1
        cases ht : chTake r (s + 1 - c.size) with
        | none => rw [ht] at h; cases h
        | some r' =>
          rw [ht] at h
          simp only [cond_true, Option.map_some, Option.some.injEq] at h
          subst h
          obtain ⟨h1, h2, h3⟩ := ih ht fun c hc => hok c (List.mem_cons_of_mem _ hc)
          refine ⟨?_, ?_, ?_⟩
          · simp only [cellsL, List.flatMap_cons] at h1 ⊢
            rw [List.take_append, hc, h1, List.take_of_length_le (by omega)]
          · simp only [cellsL, List.flatMap_cons, List.length_append] at h2 ⊢
            omega
          · intro d hd
            rcases List.mem_cons.1 hd with rfl | hd
            · exact hok _ (List.mem_cons_self ..)
            · exact h3 d hd
theorem ldL_ok : ∀ {l : List Ch} {o s : Nat} {l' : List Ch}, ldL l o s = some l' → (∀ c ∈ l, c.Ok m) →
    ((cellsL β l).drop o).take s = cellsL β l' ∧ (cellsL β l').length = s ∧ ∀ c ∈ l', c.Ok m := by
  intro l
  induction l with
  | nil =>
    intro o s l' h hok
    cases o with
    | zero => simp only [ldL] at h; simpa using chTake_ok h hok
    | succ o => cases h
  | cons c r ih =>
    intro o s l' h hok
    cases o with
    | zero => simp only [ldL] at h; simpa using chTake_ok h hok
    | succ o =>
      simp only [ldL] at h
      cases hb : Nat.ble c.size (o + 1) with
      | false => rw [hb] at h; cases h
      | true =>
        rw [hb] at h
        simp only [cond_true] at h
        have hle := Nat.le_of_ble_eq_true hb
        have hc := (Ch.cells_ok (β := β) (hok c (List.mem_cons_self ..))).1
        obtain ⟨h1, h2, h3⟩ := ih h fun c hc => hok c (List.mem_cons_of_mem _ hc)
        refine ⟨?_, h2, h3⟩
        rw [← h1]
        simp only [cellsL, List.flatMap_cons]
        rw [List.drop_append, hc, List.drop_eq_nil_of_le (by omega), List.nil_append]
theorem chDrop_ok : ∀ {l : List Ch} {s : Nat} {l' : List Ch}, chDrop l s = some l' → (∀ c ∈ l, c.Ok m) → (cellsL β l).drop s = cellsL β l' ∧ s ≤ (cellsL β l).length ∧ ∀ c ∈ l', c.Ok m := by
  intro l
  induction l with
  | nil =>
    intro s l' h hok
    cases s with
    | zero => simp only [chDrop, Option.some.injEq] at h; subst h; exact ⟨rfl, Nat.zero_le _, hok⟩
    | succ s => cases h
  | cons c r ih =>
    intro s l' h hok
    cases s with
    | zero => simp only [chDrop, Option.some.injEq] at h; subst h; exact ⟨rfl, Nat.zero_le _, hok⟩
    | succ s =>
      simp only [chDrop] at h
      cases hb : Nat.ble c.size (s + 1) with
      | false => rw [hb] at h; cases h
      | true =>
        rw [hb] at h
        simp only [cond_true] at h
        have hle := Nat.le_of_ble_eq_true hb
        have hc := (Ch.cells_ok (β := β) (hok c (List.mem_cons_self ..))).1
        obtain ⟨h1, h2, h3⟩ := ih h fun c hc => hok c (List.mem_cons_of_mem _ hc)
        refine ⟨?_, ?_, h3⟩
        · rw [← h1]
          simp only [cellsL, List.flatMap_cons]
          rw [List.drop_append, hc, List.drop_eq_nil_of_le (by omega), List.nil_append]
        · simp only [cellsL, List.flatMap_cons, List.length_append] at h2 ⊢
          omega
theorem stL_ok : ∀ {l : List Ch} {o s : Nat} {new l' : List Ch}, stL l o s new = some l' → (∀ c ∈ l, c.Ok m) → (∀ c ∈ new, c.Ok m) →
    (cellsL β l).take o ++ cellsL β new ++ (cellsL β l).drop (o + s) = cellsL β l' ∧ o + s ≤ (cellsL β l).length ∧ ∀ c ∈ l', c.Ok m := by
  have base : ∀ {l : List Ch} {s : Nat} {new l' : List Ch}, (chDrop l s).map (new ++ ·) = some l' → (∀ c ∈ l, c.Ok m) → (∀ c ∈ new, c.Ok m) →
      (cellsL β l).take 0 ++ cellsL β new ++ (cellsL β l).drop (0 + s) = cellsL β l' ∧ 0 + s ≤ (cellsL β l).length ∧ ∀ c ∈ l', c.Ok m := by
    intro l s new l' h hok hnew
    cases hd : chDrop l s with
    | none => rw [hd] at h; cases h
    | some r =>
      rw [hd] at h
      simp only [Option.map_some, Option.some.injEq] at h
      subst h
      obtain ⟨h1, h2, h3⟩ := chDrop_ok (β := β) hd hok
      refine ⟨?_, by omega, ?_⟩
      · rw [Nat.zero_add, h1]
        simp [cellsL]
      · intro c hc
        rcases List.mem_append.1 hc with h | h
        · exact hnew c h
        · exact h3 c h
  intro l
  induction l with
  | nil =>
    intro o s new l' h hok hnew
    cases o with
    | zero => exact base (by simpa only [stL] using h) hok hnew
    | succ o => cases h
  | cons c r ih =>
    intro o s new l' h hok hnew
    cases o with
    | zero => exact base (by simpa only [stL] using h) hok hnew
    | succ o =>
      simp only [stL] at h
      cases hb : Nat.ble c.size (o + 1) with
      | false => rw [hb] at h; cases h
      | true =>
        rw [hb] at h
        have hle := Nat.le_of_ble_eq_true hb
        have hc := (Ch.cells_ok (β := β) (hok c (List.mem_cons_self ..))).1
        cases hs : stL r (o + 1 - c.size) s new with
        | none => rw [hs] at h; cases h
        | some r' =>
          rw [hs] at h
          simp only [cond_true, Option.map_some, Option.some.injEq] at h
          subst h
          obtain ⟨h1, h2, h3⟩ := ih hs (fun c hc => hok c (List.mem_cons_of_mem _ hc)) hnew
          refine ⟨?_, ?_, ?_⟩
          · simp only [cellsL, List.flatMap_cons] at h1 ⊢
            rw [← h1]
            rw [List.take_append, List.drop_append, hc, List.take_of_length_le (by omega), List.drop_eq_nil_of_le (by omega), List.nil_append]
            rw [show o + 1 + s - c.size = o + 1 - c.size + s by omega]
            simp
          · simp only [cellsL, List.flatMap_cons, List.length_append] at h2 ⊢
            omega
          · intro d hd
            rcases List.mem_cons.1 hd with rfl | hd
            · exact hok _ (List.mem_cons_self ..)
            · exact h3 d hd
theorem mkV_ok {g : Bool} {l : List Ch} {s : SV} (h : mkV g l = some s) (hok : ∀ c ∈ l, c.Ok m) :
    s.Ok m ∧ (g = true → s.den β = .agg (cellsL β l).toArray) ∧ (g = false → cellsL β l = [s.den β]) := by
  unfold mkV at h
  split at h
  · simp only [Option.some.injEq] at h
    subst h
    have h1 := hok _ (List.mem_cons_self ..)
    refine ⟨h1, fun _ => ?_, fun h => by cases h⟩
    obtain ⟨cs, rfl, hl, h2⟩ := h1
    simp [SV.den, Ch.den, cellsL, Ch.cells, Value.cells]
  · simp only [Option.some.injEq] at h
    subst h
    exact ⟨hok, fun _ => rfl, fun h => by cases h⟩
  · cases h
  · rename_i c hne
    simp only [Option.some.injEq] at h
    subst h
    refine ⟨hok _ (List.mem_cons_self ..), (fun h => by cases h), fun _ => ?_⟩
    simp only [cellsL, List.flatMap_cons, List.flatMap_nil, List.append_nil, SV.den]
    cases c with
    | ag n x => exact absurd rfl (hne n x)
    | _ => rfl
  · cases h
end
end Go.Proofs.YtpheooheinfbgaaGreatDoor
end
section
set_option linter.unusedVariables false
set_option linter.unusedSimpArgs false
namespace Go.Proofs.YtpheooheinfbgaaGreatDoor
open Go Go.RowKit
inductive TKd where
  | int (k : IntKind)
  | bool
  | str
  | slice (e : TypeId)
  | array (n : Nat) (e : TypeId)
  | struct (fs : List (Nat × Nat × Bool))
  | iface
  | ptr (e : TypeId)
  | other
structure TI where
  size : Nat
  bytes : Nat
  agg : Bool
  zero : List Ch
  kind : TKd
abbrev Env := List (TypeId × TI)
def Env.get : Env → TypeId → Option TI
  | [], _ => none
  | (i, t) :: r, d => bif Nat.beq i d then some t else Env.get r d
def fieldsB (P : Program) : List Field → List (Nat × Nat × Bool) → Bool
  | [], [] => true
  | f :: r, p :: q => (Nat.beq f.offset p.1) && (match P.info? f.type with | some i => Nat.beq i.size p.2.1 | none => false) && (match aggOf (P.underlying f.type) with | some g => g == p.2.2 | none => false) && fieldsB P r q
  | _, _ => false
def KindOk (P : Program) (t : TypeId) : TKd → Prop
  | .int k => P.underlying t = some (.int k)
  | .bool => P.underlying t = some .bool
  | .str => P.underlying t = some .string
  | .slice e => P.underlying t = some (.slice e)
  | .array n e => P.underlying t = some (.array n e)
  | .struct fs => ∃ fl : Array Field, P.underlying t = some (.struct fl) ∧ fieldsB P fl.toList fs = true ∧
      ∀ w, (fl.mapM fun f => Prod.mk f.offset <$> sizeOf f.type : Sem _).run P w = .ok (fs.map fun p => (p.1, p.2.1)).toArray w
  | .iface => ∃ ms, P.underlying t = some (.interface ms)
  | .ptr e => P.underlying t = some (.pointer e)
  | .other => True
structure TyOk (P : Program) (t : TypeId) (ti : TI) : Prop where
  ty : ∃ z, TyI P t ti.size ti.bytes z ti.agg ∧ z.cells = (cellsL (fun _ => 0) ti.zero).toArray
  ok : ∀ c ∈ ti.zero, c.Ok 0
  kind : KindOk P t ti.kind
def EnvOk (P : Program) (E : Env) : Prop := ∀ p ∈ E, TyOk P p.1 p.2
theorem EnvOk.get {P : Program} {E : Env} (h : EnvOk P E) : ∀ {t : TypeId} {ti : TI}, E.get t = some ti → TyOk P t ti := by
  induction E with
  | nil => intro t ti h; cases h
  | cons p r ih =>
    obtain ⟨i, u⟩ := p
    intro t ti hg
    simp only [Env.get] at hg
    cases hb : Nat.beq i t with
    | true =>
      rw [hb] at hg
      simp only [cond_true, Option.some.injEq] at hg
      subst hg
      obtain rfl := Nat.eq_of_beq_eq_true hb
      exact h _ (List.mem_cons_self ..)
    | false =>
      rw [hb] at hg
      exact ih (fun p hp => h p (List.mem_cons_of_mem _ hp)) hg
theorem fieldsB_get {P : Program} : ∀ {fl : List Field} {fs : List (Nat × Nat × Bool)}, fieldsB P fl fs = true → ∀ (f : Nat) (p : Nat × Nat × Bool), fs[f]? = some p →
    ∃ fd i, fl[f]? = some fd ∧ fd.offset = p.1 ∧ P.info? fd.type = some i ∧ i.size = p.2.1 ∧ aggOf (P.underlying fd.type) = some p.2.2 := by
  intro fl
  induction fl with
  | nil =>
    intro fs h f p hp
    cases fs with
    | nil => simp at hp
    | cons q r => cases h
  | cons a r ih =>
    intro fs h f p hp
    cases fs with
    | nil => cases h
    | cons q r' =>
      simp only [fieldsB, Bool.and_eq_true] at h
      obtain ⟨⟨⟨h1, h2⟩, h3⟩, h4⟩ := h
      cases f with
      | zero =>
        simp only [List.getElem?_cons_zero, Option.some.injEq] at hp
        subst hp
        cases hi : P.info? a.type with
        | none => rw [hi] at h2; cases h2
        | some i =>
          rw [hi] at h2
          cases hg : aggOf (P.underlying a.type) with
          | none => rw [hg] at h3; cases h3
          | some g =>
            rw [hg] at h3
            exact ⟨a, i, rfl, Nat.eq_of_beq_eq_true h1, hi, Nat.eq_of_beq_eq_true h2, by rw [hg]; simpa using h3⟩
      | succ f =>
        simp only [List.getElem?_cons_succ] at hp ⊢
        exact ih h4 f p hp
structure AbsE where
  Q : Nat → Prop
  R : World → Prop
  frame : ∀ w w', R w → (∀ k, Q k → w'.heap[k]? = w.heap[k]?) → R w'
inductive HE where
  | blk (T : TypeId) (l : List Ch)
  | row (T : TypeId) (s : Nat) (v : Value) (n : Nat) (cs : List Value)
  | gone
  | abs (A : AbsE)
structure Bs where
  n : Nat
  K : Nat → Prop
def look : List (Nat × SV) → Nat → Option SV
  | [], _ => none
  | (i, s) :: r, d => bif Nat.beq i d then some s else look r d
def nth : List HE → Nat → Option HE
  | [], _ => none
  | h :: _, 0 => some h
  | _ :: r, i + 1 => nth r i
def setN : List HE → Nat → HE → List HE
  | [], _, _ => []
  | _ :: r, 0, x => x :: r
  | h :: r, i + 1, x => h :: setN r i x
theorem nth_eq : ∀ (l : List HE) (i : Nat), nth l i = l[i]? := by
  intro l
  induction l with
  | nil => intro i; simp [nth]
  | cons h r ih => intro i; cases i with
    | zero => simp [nth]
    | succ i => simp [nth, ih]
theorem setN_eq : ∀ (l : List HE) (i : Nat) (x : HE), setN l i x = l.set i x := by
  intro l
  induction l with
  | nil => intro i x; simp [setN]
  | cons h r ih => intro i x; cases i with
    | zero => simp [setN]
    | succ i => simp [setN, ih]
def litCh : Value → Option Ch
  | .int k z => some (.lit k z)
  | .bool x => some (.bb x)
  | .string s => some (.str s.data.toList)
  | .slice a m c => bif Nat.ble m c then some (.sl (.slice a m c) m) else none
  | .agg _ => none
  | .tuple _ => none
  | .float k x => some (.val (.float k x))
  | .complex k x y => some (.val (.complex k x y))
  | .pointer x => some (.val (.pointer x))
  | .map x => some (.val (.map x))
  | .chan x => some (.val (.chan x))
  | .func f a b => some (.val (.func f a b))
  | .nilFunc => some (.val .nilFunc)
  | .iface t x => some (.val (.iface t x))
  | .nilIface => some (.val .nilIface)
def litL : List Value → Option (List Ch)
  | [] => some []
  | x :: r => match litCh x, litL r with | some c, some l => some (c :: l) | _, _ => none
def litV : Value → Option SV
  | .agg cs => (litL cs.toList).map .agg
  | .tuple cs => match cs.toList with | [] => some .und | _ => none
  | x => (litCh x).map .one
def opd (fr : List (Nat × SV)) : Operand → Option SV
  | .tmp t => look fr t
  | .const v => litV v
  | .global g => some (.one (.val (.pointer (some ⟨g, 0, none⟩))))
  | .func f => some (.one (.fn f []))
theorem litCh_ok {β : Nat → Nat} {m : Nat} {x : Value} {c : Ch} (h : litCh x = some c) : c.den β = x ∧ c.Ok m ∧ x.oneCell' = true := by
  cases x <;> simp only [litCh, Option.some.injEq] at h
  case string s => subst h; exact ⟨by show Value.string ⟨s.data.toList.toArray⟩ = _; simp, trivial, rfl⟩
  case slice a n k =>
    cases hb : Nat.ble n k with
    | false => rw [hb] at h; cases h
    | true =>
      rw [hb] at h
      simp only [cond_true, Option.some.injEq] at h
      subst h
      exact ⟨rfl, ⟨_, _, rfl, Nat.le_of_ble_eq_true hb⟩, rfl⟩
  case agg => cases h
  case tuple => cases h
  all_goals (subst h; exact ⟨rfl, (by first | trivial | rfl), rfl⟩)
theorem litL_ok {β : Nat → Nat} {m : Nat} : ∀ {l : List Value} {r : List Ch}, litL l = some r → cellsL β r = l ∧ ∀ c ∈ r, c.Ok m := by
  intro l
  induction l with
  | nil => intro r h; simp only [litL, Option.some.injEq] at h; subst h; exact ⟨rfl, fun _ hc => by cases hc⟩
  | cons x r ih =>
    intro q h
    simp only [litL] at h
    cases h1 : litCh x with
    | none => rw [h1] at h; cases h
    | some c =>
      cases h2 : litL r with
      | none => rw [h1, h2] at h; cases h
      | some l =>
        rw [h1, h2] at h
        simp only [Option.some.injEq] at h
        subst h
        obtain ⟨e1, e2, e3⟩ := litCh_ok (β := β) (m := m) h1
        obtain ⟨e4, e5⟩ := ih h2
        refine ⟨?_, ?_⟩
        · simp only [cellsL, List.flatMap_cons] at e4 ⊢
          rw [e4]
          have h3 := Ch.cells_den (β := β) e2
          rw [e1, cells_one e3] at h3
          have h4 := congrArg Array.toList h3
          simp only at h4
          rw [← h4]
          rfl
        · intro d hd
          rcases List.mem_cons.1 hd with rfl | hd
          · exact e2
          · exact e5 d hd
theorem litV_ok {β : Nat → Nat} {m : Nat} {x : Value} {s : SV} (h : litV x = some s) : x = s.den β ∧ s.Ok m := by
  have one : ∀ {x : Value} {s : SV}, (litCh x).map .one = some s → x = s.den β ∧ s.Ok m := by
    intro x s h
    cases h1 : litCh x with
    | none => rw [h1] at h; cases h
    | some c =>
      rw [h1] at h
      simp only [Option.map_some, Option.some.injEq] at h
      subst h
      obtain ⟨e1, e2, _⟩ := litCh_ok (β := β) (m := m) h1
      exact ⟨e1.symm, e2⟩
  cases x
  case agg cs =>
    simp only [litV] at h
    cases h1 : litL cs.toList with
    | none => rw [h1] at h; cases h
    | some l =>
      rw [h1] at h
      simp only [Option.map_some, Option.some.injEq] at h
      subst h
      obtain ⟨e1, e2⟩ := litL_ok (β := β) (m := m) h1
      exact ⟨by simp [SV.den, e1], e2⟩
  case tuple cs =>
    simp only [litV] at h
    split at h
    · rename_i h1
      simp only [Option.some.injEq] at h
      subst h
      refine ⟨?_, trivial⟩
      have : cs = #[] := by simpa using h1
      subst this
      rfl
    · cases h
  all_goals exact one h
def Kn (β : Nat → Nat) (m : Nat) (x : Option SV) (v : Value) : Prop := ∀ s, x = some s → v = s.den β ∧ s.Ok m
theorem opd_kn {β : Nat → Nat} {m : Nat} {fr : List (Nat × SV)} {ρ : Fr} {x : Operand} (h : ∀ t, x = .tmp t → Kn β m (look fr t) (ρ t)) : Kn β m (opd fr x) (ev ρ x) := by
  cases x with
  | tmp t => exact h t rfl
  | const v => intro s hs; exact litV_ok hs
  | global g => intro s hs; simp only [opd, Option.some.injEq] at hs; subst hs; exact ⟨rfl, rfl⟩
  | func f =>
    intro s hs
    simp only [opd, Option.some.injEq] at hs
    subst hs
    exact ⟨rfl, fun b hb => by cases hb⟩
def InR : IntKind → Int → Prop
  | .i8, z => -128 ≤ z ∧ z ≤ 127
  | .i16, z => -32768 ≤ z ∧ z ≤ 32767
  | .i32, z => -2147483648 ≤ z ∧ z ≤ 2147483647
  | .i64, z => -9223372036854775808 ≤ z ∧ z ≤ 9223372036854775807
  | .u8, z => 0 ≤ z ∧ z ≤ 255
  | .u16, z => 0 ≤ z ∧ z ≤ 65535
  | .u32, z => 0 ≤ z ∧ z ≤ 4294967295
  | .u64, z => 0 ≤ z ∧ z ≤ 18446744073709551615
theorem InR.wrap {k : IntKind} {z : Int} (h : InR k z) : k.wrap z = z := by
  cases k <;> simp only [InR] at h <;> simp [IntKind.wrap, IntKind.signed, IntKind.bits] <;> omega
def AllT : List Prop → Prop
  | [] => True
  | p :: r => p ∧ AllT r
theorem allT_append {a b : List Prop} : AllT (a ++ b) ↔ AllT a ∧ AllT b := by
  induction a with
  | nil => simp [AllT]
  | cons p r ih => simp [AllT, ih, and_assoc]
inductive Eff where
  | put (s : SV) (vc : List Prop)
  | mk (T : TypeId) (l : List Ch) (s : SV)
  | wr (b : Nat) (l : List Ch)
def zeroL : Value → Option (List Ch)
  | .agg cs => litL cs.toList
  | x => (litCh x).map fun c => [c]
def zeroD (z : Value) : List Ch := (zeroL z).getD []
theorem zeroL_ok {β : Nat → Nat} {m : Nat} {z : Value} {l : List Ch} (h : zeroL z = some l) : z.cells = (cellsL β l).toArray ∧ ∀ c ∈ l, c.Ok m := by
  have one : ∀ {x : Value}, (litCh x).map (fun c => [c]) = some l → x.cells = (cellsL β l).toArray ∧ ∀ c ∈ l, c.Ok m := by
    intro x h
    cases h1 : litCh x with
    | none => rw [h1] at h; cases h
    | some c =>
      rw [h1] at h
      simp only [Option.map_some, Option.some.injEq] at h
      subst h
      obtain ⟨e1, e2, e3⟩ := litCh_ok (β := β) (m := m) h1
      refine ⟨?_, fun d hd => by rw [List.mem_singleton.1 hd]; exact e2⟩
      have := Ch.cells_den (β := β) e2
      rw [e1] at this
      simpa [cellsL] using this
  cases z
  case agg cs =>
    obtain ⟨e1, e2⟩ := litL_ok (β := β) (m := m) h
    exact ⟨by rw [e1]; simp [Value.cells], e2⟩
  all_goals exact one h
theorem tyOk_mk {P : Program} {t : TypeId} {s b : Nat} {z : Value} {g : Bool} {kd : TKd} (ty : TyI P t s b z g) (hz : (zeroL z).isSome = true) (hk : KindOk P t kd) : TyOk P t ⟨s, b, g, zeroD z, kd⟩ := by
  cases h : zeroL z with
  | none => rw [h] at hz; cases hz
  | some l =>
    have e : zeroD z = l := by unfold zeroD; rw [h]; rfl
    rw [e]
    exact ⟨⟨z, ty, (zeroL_ok (m := 0) h).1⟩, (zeroL_ok (β := fun _ => 0) h).2, hk⟩
theorem envOk_nil {P : Program} : EnvOk P [] := fun p hp => by cases hp
theorem envOk_cons {P : Program} {p : TypeId × TI} {E : Env} (h : TyOk P p.1 p.2) (r : EnvOk P E) : EnvOk P (p :: E) := fun q hq => by
  rcases List.mem_cons.1 hq with rfl | hq
  · exact h
  · exact r q hq
end Go.Proofs.YtpheooheinfbgaaGreatDoor
end
section
set_option linter.unusedVariables false
set_option linter.unusedSimpArgs false
namespace Go.Proofs.YtpheooheinfbgaaGreatDoor
open Go Go.RowKit
def RunV (P : Program) (ρ : Operand → Value) (o : Op) (ty : TypeId) (w : World) (v : Value) : Prop := ∀ d pos aft g, (execOp ρ ⟨d, o, ty, pos, aft, g⟩).run P w = .ok (.value v) w
section
variable {P : Program} {E : Env} {β : Nat → Nat} {m : Nat} {w : World} {ty : TypeId} {ρ : Operand → Value}
def effPick : Option SV → Option SV → Option SV → Option Eff
  | some (.one (.bb true)), x, _ => x.map fun s => .put s []
  | some (.one (.bb false)), _, y => y.map fun s => .put s []
  | _, _, _ => none
theorem put_inj {s s' : SV} {vc vc' : List Prop} (h : Eff.put s vc = Eff.put s' vc') : s = s' ∧ vc = vc' := by cases h; exact ⟨rfl, rfl⟩
theorem mapPut {x : Option SV} {s : SV} {vc : List Prop} (h : (x.map fun s => Eff.put s []) = some (.put s vc)) : x = some s := by
  cases x with
  | none => cases h
  | some y => simp only [Option.map_some, Option.some.injEq] at h; rw [(put_inj h).1]
theorem effPick_ok {c x y : Operand} {cs xs ys : Option SV} {s : SV} {vc : List Prop} (hc : Kn β m cs (ρ c)) (hx : Kn β m xs (ρ x)) (hy : Kn β m ys (ρ y)) (h : effPick cs xs ys = some (.put s vc)) :
    RunV P ρ (.pick c x y) ty w (s.den β) ∧ s.Ok m := by
  unfold effPick at h
  split at h
  · have h1 := hc _ rfl
    have h2 := hx _ (mapPut h)
    refine ⟨fun d pos aft g => ?_, h2.2⟩
    simp [execOp, h1.1, SV.den, Ch.den, asBool, h2.1]
  · have h1 := hc _ rfl
    have h2 := hy _ (mapPut h)
    refine ⟨fun d pos aft g => ?_, h2.2⟩
    simp [execOp, h1.1, SV.den, Ch.den, asBool, h2.1]
  · cases h
def arr (x : Ch) (p : Prop) : Option (Ch × List Prop) := some (x, [p])
def pur (x : Ch) : Option (Ch × List Prop) := some (x, [])
def litBin (op : BinOp) (k : IntKind) (a b : Int) : Option (Ch × List Prop) :=
  match op with
  | .add => pur (.lit k (k.wrap (a + b)))
  | .sub => pur (.lit k (k.wrap (a - b)))
  | .mul => pur (.lit k (k.wrap (a * b)))
  | .quo => bif decide (b = 0) then none else pur (.lit k (k.wrap (a.tdiv b)))
  | .rem => bif decide (b = 0) then none else pur (.lit k (a.tmod b))
  | .eql => pur (.bb (decide (a = b)))
  | .neq => pur (.bb (!decide (a = b)))
  | .lss => pur (.bb (decide (a < b)))
  | .leq => pur (.bb (decide (a ≤ b)))
  | .gtr => pur (.bb (decide (b < a)))
  | .geq => pur (.bb (decide (b ≤ a)))
  | _ => none
def symBin (op : BinOp) (k : IntKind) (a b : Int) : Option (Ch × List Prop) :=
  match op with
  | .add => arr (.int k (a + b)) (InR k (a + b))
  | .sub => arr (.int k (a - b)) (InR k (a - b))
  | .mul => arr (.int k (a * b)) (InR k (a * b))
  | .quo => arr (.int k (a / b)) (0 ≤ a ∧ 0 < b ∧ InR k (a / b))
  | .rem => arr (.int k (a % b)) (0 ≤ a ∧ 0 < b)
  | .eql => pur (.tp (a = b))
  | .neq => pur (.tp (a ≠ b))
  | .lss => pur (.tp (a < b))
  | .leq => pur (.tp (a ≤ b))
  | .gtr => pur (.tp (b < a))
  | .geq => pur (.tp (b ≤ a))
  | _ => none
def propOf : Ch → Option Prop
  | .bb x => some (x = true)
  | .tp p => some p
  | _ => none
def boolBin (op : BinOp) (x y : Ch) : Option (Ch × List Prop) :=
  match propOf x, propOf y with
  | some p, some q => match op with
    | .eql => pur (.tp (p ↔ q))
    | .neq => pur (.tp (¬ (p ↔ q)))
    | _ => none
  | _, _ => none
def strBin (op : BinOp) (a b : List UInt8) : Option (Ch × List Prop) :=
  match op with
  | .eql => pur (.tp (a = b))
  | .neq => pur (.tp (a ≠ b))
  | .add => arr (.str (a ++ b)) (a.length + b.length ≤ 9223372036854775807)
  | _ => none
def isBoolT (E : Env) (t : TypeId) : Bool := match E.get t with | some ti => (match ti.kind with | .bool => true | _ => false) | none => false
def binC (E : Env) (op : BinOp) (t : TypeId) : Ch → Ch → Option (Ch × List Prop)
  | .lit k a, .lit k' b => bif decide (k = k') then litBin op k a b else none
  | .lit k a, .int k' b => bif decide (k = k') then symBin op k a b else none
  | .int k a, .lit k' b => bif decide (k = k') then symBin op k a b else none
  | .int k a, .int k' b => bif decide (k = k') then symBin op k a b else none
  | .str a, .str b => strBin op a b
  | x, y => bif isBoolT E t then boolBin op x y else none
theorem litBin_ok {op : BinOp} {k : IntKind} {a b : Int} {c : Ch} {vc : List Prop} (h : litBin op k a b = some (c, vc)) :
    (binOp op 0 (.int k a) (.int k b)).run P w = .ok (c.den β) w ∧ c.Ok m ∧ (∀ t, (binOp op t (.int k a) (.int k b)) = binOp op 0 (.int k a) (.int k b)) := by
  have hb0 : ∀ {x : Option (Ch × List Prop)}, (bif decide (b = 0) then none else x) = some (c, vc) → b ≠ 0 ∧ x = some (c, vc) := by
    intro x h
    by_cases e : b = 0
    · rw [decide_eq_true e] at h; cases h
    · rw [decide_eq_false e] at h; exact ⟨e, h⟩
  cases op <;> simp only [litBin, pur, Option.some.injEq, Prod.mk.injEq] at h
  case quo =>
    obtain ⟨h1, h2⟩ := hb0 h
    simp only [Option.some.injEq, Prod.mk.injEq] at h2
    obtain ⟨rfl, rfl⟩ := h2
    exact ⟨by simp [binOp, Op.intDiv, h1, Ch.den], trivial, fun t => rfl⟩
  case rem =>
    obtain ⟨h1, h2⟩ := hb0 h
    simp only [Option.some.injEq, Prod.mk.injEq] at h2
    obtain ⟨rfl, rfl⟩ := h2
    exact ⟨by simp [binOp, Op.intDiv, h1, Ch.den], trivial, fun t => rfl⟩
  all_goals first
    | (cases h; done)
    | (obtain ⟨rfl, rfl⟩ := h
       exact ⟨by simp [binOp, Op.intArith, Op.intCmp, Ch.den]; try (first | rfl | (by_cases e : a = b <;> simp [e, bne])), trivial, fun t => rfl⟩)
theorem symBin_ok {op : BinOp} {k : IntKind} {a b : Int} {c : Ch} {vc : List Prop} (h : symBin op k a b = some (c, vc)) (hv : AllT vc) :
    (binOp op 0 (.int k a) (.int k b)).run P w = .ok (c.den β) w ∧ c.Ok m ∧ (∀ t, (binOp op t (.int k a) (.int k b)) = binOp op 0 (.int k a) (.int k b)) := by
  have e1 : (a == b) = tst (a = b) := by rw [← decide_tst, Bool.eq_iff_iff]; simp
  have e2 : (a != b) = tst (a ≠ b) := by rw [← decide_tst, Bool.eq_iff_iff]; simp
  cases op <;> simp only [symBin, pur, arr, Option.some.injEq, Prod.mk.injEq] at h
  all_goals first
    | (cases h; done)
    | skip
  case quo =>
    obtain ⟨rfl, rfl⟩ := h
    obtain ⟨⟨h0, h1, h2⟩, _⟩ := hv
    exact ⟨by simp [binOp, Op.intDiv, show b ≠ 0 by omega, Ch.den, tdiv_pos h0, h2.wrap], trivial, fun t => rfl⟩
  case rem =>
    obtain ⟨rfl, rfl⟩ := h
    obtain ⟨⟨h0, h1⟩, _⟩ := hv
    exact ⟨by simp [binOp, Op.intDiv, show b ≠ 0 by omega, Ch.den, tmod_pos h0], trivial, fun t => rfl⟩
  case add => obtain ⟨rfl, rfl⟩ := h; exact ⟨by simp [binOp, Op.intArith, Ch.den, InR.wrap hv.1], trivial, fun t => rfl⟩
  case sub => obtain ⟨rfl, rfl⟩ := h; exact ⟨by simp [binOp, Op.intArith, Ch.den, InR.wrap hv.1], trivial, fun t => rfl⟩
  case mul => obtain ⟨rfl, rfl⟩ := h; exact ⟨by simp [binOp, Op.intArith, Ch.den, InR.wrap hv.1], trivial, fun t => rfl⟩
  all_goals
    obtain ⟨rfl, rfl⟩ := h
    exact ⟨by simp [binOp, Op.intCmp, Ch.den, e1, e2, decide_tst], trivial, fun t => rfl⟩
theorem propOf_ok {c : Ch} {p : Prop} (h : propOf c = some p) : c.den β = .bool (tst p) := by
  cases c <;> simp only [propOf, Option.some.injEq] at h <;> first | (cases h; done) | skip
  case bb x => subst h; cases x; exact congrArg Value.bool (tst_false (by simp)).symm; exact congrArg Value.bool (tst_true rfl).symm
  case tp q => subst h; rfl
theorem boolBin_ok {op : BinOp} {x y c : Ch} {t : TypeId} {vc : List Prop} (ht : P.underlying t = some .bool) (h : boolBin op x y = some (c, vc)) :
    (binOp op t (x.den β) (y.den β)).run P w = .ok (c.den β) w ∧ c.Ok m ∧ (∃ u u', x.den β = .bool u ∧ y.den β = .bool u') := by
  have bt : BoolT P t := ⟨ht⟩
  unfold boolBin at h
  cases hx : propOf x with
  | none => rw [hx] at h; cases h
  | some p =>
    cases hy : propOf y with
    | none => rw [hx, hy] at h; cases h
    | some q =>
      rw [hx, hy] at h
      have e1 := propOf_ok (β := β) hx
      have e2 := propOf_ok (β := β) hy
      have e3 : (tst p == tst q) = tst (p ↔ q) := by
        by_cases hp : p <;> by_cases hq : q
        · rw [tst_true hp, tst_true hq, tst_true ⟨fun _ => hq, fun _ => hp⟩]; rfl
        · rw [tst_true hp, tst_false hq, tst_false fun h => hq (h.1 hp)]; rfl
        · rw [tst_false hp, tst_true hq, tst_false fun h => hp (h.2 hq)]; rfl
        · rw [tst_false hp, tst_false hq, tst_true ⟨fun h => (hp h).elim, fun h => (hq h).elim⟩]; rfl
      cases op <;> simp only [pur, Option.some.injEq, Prod.mk.injEq] at h <;> first | (cases h; done) | skip
      · obtain ⟨rfl, rfl⟩ := h
        rw [e1, e2]
        exact ⟨by simp [binOp, run_equalB, Ch.den, e3], trivial, _, _, rfl, rfl⟩
      · obtain ⟨rfl, rfl⟩ := h
        rw [e1, e2]
        exact ⟨by simp [binOp, run_equalB, Ch.den, e3, bne, not_tst], trivial, _, _, rfl, rfl⟩
theorem strBin_ok {op : BinOp} {a b : List UInt8} {c : Ch} {vc : List Prop} (h : strBin op a b = some (c, vc)) (hv : AllT vc) :
    (binOp op 0 (strV a) (strV b)).run P w = .ok (c.den β) w ∧ c.Ok m ∧ (∀ t, (binOp op t (strV a) (strV b)) = binOp op 0 (strV a) (strV b)) := by
  have e0 : (a == b) = tst (a = b) := by
    rw [← decide_tst, Bool.eq_iff_iff]
    simp
  cases op <;> simp only [strBin, pur, arr, Option.some.injEq, Prod.mk.injEq] at h <;> first | (cases h; done) | skip
  · obtain ⟨rfl, rfl⟩ := h
    have h1 : ¬ (((⟨a.toArray⟩ : ByteArray).size + (⟨b.toArray⟩ : ByteArray).size : Nat) : Int) > IntKind.i64.max := by
      show ¬ ((a.toArray.size + b.toArray.size : Nat) : Int) > IntKind.i64.max
      have := hv.1
      simp [IntKind.max, IntKind.signed, IntKind.bits]
      omega
    have h2 : (⟨a.toArray⟩ : ByteArray) ++ ⟨b.toArray⟩ = ⟨(a ++ b).toArray⟩ := by
      apply ByteArray.ext
      simp
    exact ⟨by simp only [binOp, Op.stringOp, if_neg h1, h2, Ch.den]; simp, trivial, fun t => rfl⟩
  · obtain ⟨rfl, rfl⟩ := h
    exact ⟨by simp [binOp, Op.stringOp, Ch.den, e0], trivial, fun t => rfl⟩
  · obtain ⟨rfl, rfl⟩ := h
    exact ⟨by simp [binOp, Op.stringOp, Ch.den, bne, e0, not_tst], trivial, fun t => rfl⟩
end
end Go.Proofs.YtpheooheinfbgaaGreatDoor
end
section
set_option linter.unusedVariables false
set_option linter.unusedSimpArgs false
namespace Go.Proofs.YtpheooheinfbgaaGreatDoor
open Go Go.RowKit
section
variable {P : Program} {E : Env} {β : Nat → Nat} {m : Nat} {w : World} {ty : TypeId} {ρ : Operand → Value}
def effBin (E : Env) (op : BinOp) (t : TypeId) : Option SV → Option SV → Option Eff
  | some (.one x), some (.one y) => (binC E op t x y).map fun r => .put (.one r.1) r.2
  | _, _ => none
theorem effBin_ok {op : BinOp} {t t' : TypeId} {x y : Operand} {xs ys : Option SV} {s : SV} {vc : List Prop} (hE : EnvOk P E) (hx : Kn β m xs (ρ x)) (hy : Kn β m ys (ρ y)) (h : effBin E op t xs ys = some (.put s vc)) (hv : AllT vc) :
    RunV P ρ (.binOp op t x y t') ty w (s.den β) ∧ s.Ok m := by
  unfold effBin at h
  split at h
  · rename_i cx cy
    have h1 := (hx _ rfl).1
    have h2 := (hy _ rfl).1
    simp only [SV.den] at h1 h2
    cases hb : binC E op t cx cy with
    | none => rw [hb] at h; cases h
    | some r =>
      obtain ⟨c, vc'⟩ := r
      rw [hb] at h
      simp only [Option.map_some, Option.some.injEq] at h
      obtain ⟨rfl, rfl⟩ := put_inj h
      unfold binC at hb
      have hk : ∀ {k k' : IntKind} {o : Option (Ch × List Prop)}, (bif decide (k = k') then o else none) = some (c, vc') → k = k' ∧ o = some (c, vc') := by
        intro k k' o h
        by_cases e : k = k'
        · rw [decide_eq_true e] at h; exact ⟨e, h⟩
        · rw [decide_eq_false e] at h; cases h
      have num : ∀ {k : IntKind} {a b : Int}, ρ x = .int k a → ρ y = .int k b → (binOp op 0 (.int k a) (.int k b)).run P w = .ok (c.den β) w ∧ c.Ok m ∧ (∀ t, (binOp op t (.int k a) (.int k b)) = binOp op 0 (.int k a) (.int k b)) →
          RunV P ρ (.binOp op t x y t') ty w ((SV.one c).den β) ∧ (SV.one c).Ok m := by
        intro k a b e1 e2 hr
        refine ⟨fun d pos aft g => ?_, hr.2.1⟩
        have e3 : (eqGuard op t x y (.int k a) (.int k b)).run P w = .ok () w := by cases op <;> rfl
        simp [execOp, e1, e2, e3, hr.2.2 t, hr.1, SV.den]
      split at hb
      · obtain ⟨hkk, hb2⟩ := hk hb; subst hkk; exact num h1 h2 (litBin_ok hb2)
      · obtain ⟨hkk, hb2⟩ := hk hb; subst hkk; exact num h1 h2 (symBin_ok hb2 hv)
      · obtain ⟨hkk, hb2⟩ := hk hb; subst hkk; exact num h1 h2 (symBin_ok hb2 hv)
      · obtain ⟨hkk, hb2⟩ := hk hb; subst hkk; exact num h1 h2 (symBin_ok hb2 hv)
      · rename_i a b
        have hr := strBin_ok (P := P) (β := β) (m := m) (w := w) hb hv
        refine ⟨fun d pos aft g => ?_, hr.2.1⟩
        simp only [Ch.den] at h1 h2
        have e3 : (eqGuard op t x y (strV a) (strV b)).run P w = .ok () w := by cases op <;> rfl
        simp [execOp, h1, h2, e3, hr.2.2 t, hr.1, SV.den]
      · unfold isBoolT at hb
        cases ht : E.get t with
        | none => rw [ht] at hb; cases hb
        | some ti =>
          simp only [ht] at hb
          have hkd := (hE.get ht).kind
          cases hk2 : ti.kind <;> simp only [hk2] at hb hkd <;> first | (cases hb; done) | skip
          simp only [cond_true] at hb
          obtain ⟨hr1, hr2, u, u', e4, e5⟩ := boolBin_ok (P := P) (β := β) (m := m) (w := w) hkd hb
          refine ⟨fun d pos aft g => ?_, hr2⟩
          have e3 : (eqGuard op t x y (ρ x) (ρ y)).run P w = .ok () w := by rw [h1, h2, e4, e5]; cases op <;> rfl
          simp [execOp, e3]
          rw [h1, h2, hr1]
          rfl
  · cases h
def effUn (op : UnOp) : Option SV → Option Eff
  | some (.one (.bb x)) => match op with | .not => some (.put (.one (.bb (!x))) []) | _ => none
  | some (.one (.tp p)) => match op with | .not => some (.put (.one (.tp (¬ p))) []) | _ => none
  | some (.one (.lit k z)) => match op with | .neg => some (.put (.one (.lit k (k.wrap (0 - z)))) []) | _ => none
  | some (.one (.int k z)) => match op with | .neg => some (.put (.one (.int k (0 - z))) [InR k (0 - z)]) | _ => none
  | _ => none
theorem effUn_ok {op : UnOp} {t : TypeId} {x : Operand} {xs : Option SV} {s : SV} {vc : List Prop} (hx : Kn β m xs (ρ x)) (h : effUn op xs = some (.put s vc)) (hv : AllT vc) :
    RunV P ρ (.unOp op t x) ty w (s.den β) ∧ s.Ok m := by
  unfold effUn at h
  split at h
  · have h1 := (hx _ rfl).1
    cases op <;> simp only [Option.some.injEq] at h <;> first | (cases h; done) | skip
    obtain ⟨rfl, rfl⟩ := put_inj h
    exact ⟨fun d pos aft g => by simp [execOp, h1, SV.den, Ch.den, Op.unary], trivial⟩
  · have h1 := (hx _ rfl).1
    cases op <;> simp only [Option.some.injEq] at h <;> first | (cases h; done) | skip
    obtain ⟨rfl, rfl⟩ := put_inj h
    exact ⟨fun d pos aft g => by simp [execOp, h1, SV.den, Ch.den, Op.unary, not_tst], trivial⟩
  · have h1 := (hx _ rfl).1
    cases op <;> simp only [Option.some.injEq] at h <;> first | (cases h; done) | skip
    obtain ⟨rfl, rfl⟩ := put_inj h
    exact ⟨fun d pos aft g => by simp [execOp, h1, SV.den, Ch.den, Op.unary, Op.intArith], trivial⟩
  · have h1 := (hx _ rfl).1
    cases op <;> simp only [Option.some.injEq] at h <;> first | (cases h; done) | skip
    obtain ⟨rfl, rfl⟩ := put_inj h
    have h2 := hv.1.wrap
    exact ⟨fun d pos aft g => by simp [execOp, h1, SV.den, Ch.den, Op.unary, Op.intArith]; simpa using h2, trivial⟩
  · cases h
def kindOf (E : Env) (t : TypeId) : TKd := match E.get t with | some ti => ti.kind | none => .other
theorem kindOf_ok {t : TypeId} (hE : EnvOk P E) : KindOk P t (kindOf E t) := by
  unfold kindOf
  cases h : E.get t with
  | none => trivial
  | some ti => exact (hE.get h).kind
def effConv (E : Env) (src dst : TypeId) : Option SV → Option Eff
  | some (.one (.lit _ z)) => match kindOf E src, kindOf E dst with | .int _, .int k => some (.put (.one (.lit k (k.wrap z))) []) | _, _ => none
  | some (.one (.int _ z)) => match kindOf E src, kindOf E dst with | .int j, .int k => bif j.signed && !k.signed then some (.put (.one (.int k (k.wrap z))) []) else some (.put (.one (.int k z)) [InR k z]) | _, _ => none
  | some (.one (.str l)) => match kindOf E src, kindOf E dst with | .str, .str => some (.put (.one (.str l)) []) | _, _ => none
  | _ => none
theorem effConv_ok {src dst : TypeId} {x : Operand} {xs : Option SV} {s : SV} {vc : List Prop} (hE : EnvOk P E) (hx : Kn β m xs (ρ x)) (h : effConv E src dst xs = some (.put s vc)) (hv : AllT vc) :
    RunV P ρ (.convert src dst x) ty w (s.den β) ∧ s.Ok m := by
  have h2 := kindOf_ok (t := src) hE
  have h3 := kindOf_ok (t := dst) hE
  unfold effConv at h
  split at h
  · have h1 := (hx _ rfl).1
    split at h <;> first | (cases h; done) | skip
    rename_i e1 e2
    rw [e1] at h2
    rw [e2] at h3
    simp only [Option.some.injEq] at h
    obtain ⟨rfl, rfl⟩ := put_inj h
    exact ⟨fun d pos aft g => by simp [execOp, h1, SV.den, Ch.den, convert, run_underlying h2, run_underlying h3, Conv.intToInt], trivial⟩
  · have h1 := (hx _ rfl).1
    split at h <;> first | (cases h; done) | skip
    rename_i j k e1 e2
    rw [e1] at h2
    rw [e2] at h3
    cases hb : (j.signed && !k.signed) with
    | true =>
      rw [hb] at h
      simp only [cond_true, Option.some.injEq] at h
      obtain ⟨rfl, rfl⟩ := put_inj h
      exact ⟨fun d pos aft g => by simp [execOp, h1, SV.den, Ch.den, convert, run_underlying h2, run_underlying h3, Conv.intToInt], trivial⟩
    | false =>
      rw [hb] at h
      simp only [cond_false, Option.some.injEq] at h
      obtain ⟨rfl, rfl⟩ := put_inj h
      exact ⟨fun d pos aft g => by simp [execOp, h1, SV.den, Ch.den, convert, run_underlying h2, run_underlying h3, Conv.intToInt, hv.1.wrap], trivial⟩
  · have h1 := (hx _ rfl).1
    split at h <;> first | (cases h; done) | skip
    rename_i e1 e2
    rw [e1] at h2
    rw [e2] at h3
    simp only [Option.some.injEq] at h
    obtain ⟨rfl, rfl⟩ := put_inj h
    exact ⟨fun d pos aft g => by simp [execOp, h1, SV.den, Ch.den, convert, run_underlying h2, run_underlying h3], trivial⟩
  · cases h
def capOf : Option SV → Option (Nat ⊕ Value)
  | some (.one (.ptr b 0)) => some (.inl b)
  | some (.one (.val x)) => some (.inr x)
  | some (.one (.sl x _)) => some (.inr x)
  | some (.one (.int k z)) => some (.inr (.int k z))
  | some (.one (.lit k z)) => some (.inr (.int k z))
  | some (.one (.str l)) => some (.inr (strV l))
  | some (.one (.ag _ x)) => some (.inr x)
  | _ => none
def capsOf : List (Option SV) → Option (List (Nat ⊕ Value))
  | [] => some []
  | x :: r => match capOf x, capsOf r with | some c, some l => some (c :: l) | _, _ => none
theorem capOf_ok {x : Option SV} {c : Nat ⊕ Value} {v : Value} (hx : Kn β m x v) (h : capOf x = some c) : v = capDen β c ∧ ∀ b, c = .inl b → b < m := by
  unfold capOf at h
  split at h <;> first | (cases h; done) | skip
  all_goals
    have h1 := hx _ rfl
    simp only [Option.some.injEq] at h
    subst h
  · exact ⟨h1.1, fun b hb => by cases hb; exact h1.2⟩
  all_goals exact ⟨h1.1, fun b hb => by cases hb⟩
theorem capsOf_ok : ∀ {xs : List (Option SV)} {vs : List Value} {cs : List (Nat ⊕ Value)}, xs.length = vs.length → (∀ i, Kn β m (xs.getD i none) (vs.getD i undef)) → capsOf xs = some cs → vs = cs.map (capDen β) ∧ ∀ b, Sum.inl b ∈ cs → b < m := by
  intro xs
  induction xs with
  | nil =>
    intro vs cs hl hk h
    simp only [capsOf, Option.some.injEq] at h
    subst h
    cases vs with
    | nil => exact ⟨rfl, fun b hb => by cases hb⟩
    | cons v r => simp at hl
  | cons x r ih =>
    intro vs cs hl hk h
    cases vs with
    | nil => simp at hl
    | cons v vr =>
      simp only [capsOf] at h
      cases h1 : capOf x with
      | none => rw [h1] at h; cases h
      | some c =>
        cases h2 : capsOf r with
        | none => rw [h1, h2] at h; cases h
        | some l =>
          rw [h1, h2] at h
          simp only [Option.some.injEq] at h
          subst h
          have h3 := capOf_ok (hk 0) h1
          have h4 := ih (by simpa using hl) (fun i => hk (i + 1)) h2
          refine ⟨?_, ?_⟩
          · have e0 : v = capDen β c := h3.1
            rw [List.map_cons, ← h4.1, ← e0]
          · intro b hb
            rcases List.mem_cons.1 hb with e | hb
            · exact h3.2 b e.symm
            · exact h4.2 b hb
def effFunc (fn : Fn) (first : Array Operand) (caps : List (Option SV)) : Option Eff :=
  match fn, first.toList with
  | .func g, [] => (capsOf caps).map fun l => .put (.one (.fn g l)) []
  | _, _ => none
theorem effFunc_ok {fn : Fn} {first cap : Array Operand} {f : Operand → Option SV} {s : SV} {vc : List Prop} (hx : ∀ x, x ∈ cap.toList → Kn β m (f x) (ρ x)) (h : effFunc fn first (cap.toList.map f) = some (.put s vc)) :
    RunV P ρ (.makeFunc fn first cap) ty w (s.den β) ∧ s.Ok m := by
  unfold effFunc at h
  split at h
  · rename_i g hf
    have hf' : first = #[] := by simpa using hf
    subst hf'
    cases hc : capsOf (cap.toList.map f) with
    | none => rw [hc] at h; cases h
    | some l =>
      rw [hc] at h
      simp only [Option.map_some, Option.some.injEq] at h
      obtain ⟨rfl, rfl⟩ := put_inj h
      have hk := capsOf_ok (β := β) (m := m) (vs := cap.toList.map ρ) (by simp) (fun i => by
        simp only [List.getD_eq_getElem?_getD, List.getElem?_map]
        cases hi : cap.toList[i]? with
        | none => intro s hs; simp at hs
        | some x => simpa using hx x (List.mem_of_getElem? hi)) hc
      refine ⟨fun d pos aft g => ?_, hk.2⟩
      have e : Array.map ρ cap = (l.map (capDen β)).toArray := by rw [← hk.1, ← Array.toList_map, Array.toArray_toList]
      simp [execOp, Instr.makeFunc, SV.den, Ch.den, e]
  · cases h
def effFieldA (E : Env) (T : TypeId) (f : Nat) : Option SV → Option Eff
  | some (.one (.ptr b o)) => match kindOf E T with
    | .struct fs => match (fs[f]? : Option (Nat × Nat × Bool)) with
      | some p => bif Nat.beq p.2.1 0 then none else some (.put (.one (.ptr b (o + p.1))) [])
      | none => none
    | _ => none
  | _ => none
theorem add_addr (g o k : Nat) : (⟨g, o, none⟩ : Addr).add k = ⟨g, o + k, none⟩ := by
  unfold Addr.add
  split <;> simp_all
theorem effFieldA_ok {T : TypeId} {f : Nat} {x : Operand} {xs : Option SV} {s : SV} {vc : List Prop} (hE : EnvOk P E) (hx : Kn β m xs (ρ x)) (h : effFieldA E T f xs = some (.put s vc)) :
    RunV P ρ (.fieldAddr T x f) ty w (s.den β) ∧ s.Ok m := by
  have h2 := kindOf_ok (t := T) hE
  unfold effFieldA at h
  split at h <;> first | (cases h; done) | skip
  rename_i b o
  have h1 := hx _ rfl
  split at h <;> first | (cases h; done) | skip
  rename_i fs e1
  rw [e1] at h2
  obtain ⟨fl, h3, h4, h5⟩ := h2
  split at h <;> first | (cases h; done) | skip
  rename_i p e2
  obtain ⟨fd, i, h6, h7, h8, h9, h10⟩ := fieldsB_get h4 f p e2
  cases hz : Nat.beq p.2.1 0 with
  | true => rw [hz] at h; cases h
  | false =>
    rw [hz] at h
    simp only [cond_false, Option.some.injEq] at h
    obtain ⟨rfl, rfl⟩ := put_inj h
    refine ⟨fun d pos aft g => ?_, h1.2⟩
    have hf : fl[f]? = some fd := by simpa using h6
    have hn : i.size ≠ 0 := by rw [h9]; intro e; rw [e] at hz; cases hz
    simp [execOp, h1.1, SV.den, Ch.den, Instr.fieldAt, run_underlying h3, hf, Instr.sureAddr, fieldPlace, sizeOf, typeInfo, h8, hn, h7, add_addr]
def effField (E : Env) (T : TypeId) (f : Nat) : Option SV → Option Eff
  | some (.agg l) => match kindOf E T with
    | .struct fs => match (fs[f]? : Option (Nat × Nat × Bool)) with
      | some p => ((ldL l p.1 p.2.1).bind (mkV p.2.2)).map fun s => .put s []
      | none => none
    | _ => none
  | _ => none
theorem size_run {t : TypeId} {i : TypeInfo} (h : P.info? t = some i) : (sizeOf t).run P w = .ok i.size w := by simp [sizeOf, typeInfo, h]
theorem agg_run {t : TypeId} {g : Bool} (h : aggOf (P.underlying t) = some g) : (isAgg t).run P w = .ok g w := by
  cases hu : P.underlying t with
  | none => rw [hu] at h; cases h
  | some d =>
    rw [hu] at h
    cases d <;> simp [aggOf] at h <;> subst h <;> simp [isAgg, run_underlying hu]
theorem part_run {t : TypeId} {l l' : List Ch} {o sz : Nat} {g : Bool} {s : SV} {i : TypeInfo} (hi : P.info? t = some i) (hs : i.size = sz) (hg : aggOf (P.underlying t) = some g) (hok : ∀ c ∈ l, c.Ok m)
    (h1 : ldL l o sz = some l') (h2 : mkV g l' = some s) : (part t (cellsL β l).toArray o).run P w = .ok (s.den β) w ∧ s.Ok m := by
  obtain ⟨e1, e2, e3⟩ := ldL_ok (β := β) h1 hok
  obtain ⟨e4, e5, e6⟩ := mkV_ok (β := β) h2 e3
  refine ⟨?_, e4⟩
  cases g with
  | true =>
    have e7 : (cellsL β l).toArray.extract o (o + sz) = (cellsL β l').toArray := by
      rw [← e1]
      apply Array.toList_inj.1
      simp [List.extract_eq_take_drop]
    simp only [part, Sem.run_bind, agg_run hg, Result.andThen, size_run hi, hs, if_true, Sem.run_pure, e7, e5 rfl]
  | false =>
    have e7 := e6 rfl
    rw [e7] at e1 e2
    have e8 : (cellsL β l)[o]? = some (s.den β) := by
      have : (((cellsL β l).drop o).take sz)[0]? = some (s.den β) := by rw [e1]; rfl
      rw [List.getElem?_take] at this
      split at this
      · simpa using this
      · cases this
    simp [part, agg_run hg, e8]
theorem effField_ok {T : TypeId} {f : Nat} {x : Operand} {xs : Option SV} {s : SV} {vc : List Prop} (hE : EnvOk P E) (hx : Kn β m xs (ρ x)) (h : effField E T f xs = some (.put s vc)) :
    RunV P ρ (.field T x f) ty w (s.den β) ∧ s.Ok m := by
  have h2 := kindOf_ok (t := T) hE
  unfold effField at h
  split at h <;> first | (cases h; done) | skip
  rename_i l
  have h1 := hx _ rfl
  split at h <;> first | (cases h; done) | skip
  rename_i fs e1
  rw [e1] at h2
  obtain ⟨fl, h3, h4, h5⟩ := h2
  split at h <;> first | (cases h; done) | skip
  rename_i p e2
  obtain ⟨fd, i, h6, h7, h8, h9, h10⟩ := fieldsB_get h4 f p e2
  have h11 := mapPut h
  cases hl : ldL l p.1 p.2.1 with
  | none => rw [hl] at h11; cases h11
  | some l' =>
    rw [hl] at h11
    simp only [Option.bind_some] at h11
    obtain ⟨h12, h13⟩ := part_run (P := P) (w := w) (β := β) h8 h9 h10 h1.2 hl h11
    refine ⟨fun d pos aft g => ?_, h13⟩
    have hf : fl[f]? = some fd := by simpa using h6
    simp [execOp, h1.1, SV.den, Instr.field, run_underlying h3, hf, asAgg, h7, h12]
def effIndexA (E : Env) (T : TypeId) : Option SV → Option SV → Option Eff
  | some (.one (.ptr b o)), some (.one (.lit _ z)) => match kindOf E T with
    | .array n e => match E.get e with
      | some ti => bif decide (0 ≤ z) && decide (z < n) then some (.put (.one (.ptr b (o + z.toNat * ti.size))) []) else none
      | none => none
    | _ => none
  | some (.one (.win b o n c)), some (.one (.lit _ z)) => match kindOf E T with
    | .slice e => match E.get e with
      | some ti => bif decide (0 ≤ z) && decide (z < n) then some (.put (.one (.ptr b (o + z.toNat * ti.size))) []) else none
      | none => none
    | _ => none
  | _, _ => none
theorem effIndexA_ok {T : TypeId} {x y : Operand} {xs ys : Option SV} {s : SV} {vc : List Prop} (hE : EnvOk P E) (hx : Kn β m xs (ρ x)) (hy : Kn β m ys (ρ y)) (h : effIndexA E T xs ys = some (.put s vc)) :
    RunV P ρ (.indexAddr T x y) ty w (s.den β) ∧ s.Ok m := by
  have h2 := kindOf_ok (t := T) hE
  unfold effIndexA at h
  have fin : ∀ {z : Int} {n b o : Nat} {e : TypeId} {ti : TI}, (bif decide (0 ≤ z) && decide (z < n) then some (Eff.put (.one (.ptr b (o + z.toNat * ti.size))) []) else none) = some (.put s vc) →
      (0 ≤ z ∧ z < n) ∧ s = .one (.ptr b (o + z.toNat * ti.size)) := by
    intro z n b o e ti h
    by_cases hr : 0 ≤ z ∧ z < n
    · rw [decide_eq_true hr.1, decide_eq_true hr.2] at h
      simp only [Bool.and_self, cond_true, Option.some.injEq] at h
      exact ⟨hr, (put_inj h).1.symm⟩
    · exfalso
      have : (decide (0 ≤ z) && decide (z < n)) = false := by
        rw [Bool.and_eq_false_iff, decide_eq_false_iff_not, decide_eq_false_iff_not]
        exact Decidable.not_and_iff_or_not.1 hr
      rw [this] at h
      cases h
  split at h <;> first | (cases h; done) | skip
  · have h1 := hx _ rfl
    have h3 := hy _ rfl
    split at h <;> first | (cases h; done) | skip
    rename_i e1
    rw [e1] at h2
    split at h <;> first | (cases h; done) | skip
    rename_i ti e2
    obtain ⟨zz, hty, _⟩ := (hE.get e2).ty
    obtain ⟨hr, rfl⟩ := fin (e := 0) h
    refine ⟨fun d pos aft g => ?_, h1.2⟩
    simp [execOp, h1.1, h3.1, SV.den, Ch.den, Instr.indexAt, asIntOf, run_underlying h2, Instr.sureAddr, hr.1, hr.2, hty.runSize w, add_addr]
  · have h1 := hx _ rfl
    have h3 := hy _ rfl
    split at h <;> first | (cases h; done) | skip
    rename_i e1
    rw [e1] at h2
    split at h <;> first | (cases h; done) | skip
    rename_i ti e2
    obtain ⟨zz, hty, _⟩ := (hE.get e2).ty
    obtain ⟨hr, rfl⟩ := fin (e := 0) h
    refine ⟨fun d pos aft g => ?_, h1.2⟩
    simp [execOp, h1.1, h3.1, SV.den, Ch.den, Instr.indexAt, asIntOf, run_underlying h2, Instr.sureAddr, hr.1, hr.2, hty.runSize w, add_addr]
def effIndex (E : Env) (T : TypeId) : Option SV → Option SV → Option Eff
  | some (.agg l), some (.one (.lit _ z)) => match kindOf E T with
    | .array n e => match E.get e with
      | some ti => bif decide (0 ≤ z) && decide (z < n) then ((ldL l (z.toNat * ti.size) ti.size).bind (mkV ti.agg)).map fun s => .put s [] else none
      | none => none
    | _ => none
  | _, _ => none
theorem effIndex_ok {T : TypeId} {x y : Operand} {xs ys : Option SV} {s : SV} {vc : List Prop} (hE : EnvOk P E) (hx : Kn β m xs (ρ x)) (hy : Kn β m ys (ρ y)) (h : effIndex E T xs ys = some (.put s vc)) :
    RunV P ρ (.index T x y) ty w (s.den β) ∧ s.Ok m := by
  have h2 := kindOf_ok (t := T) hE
  unfold effIndex at h
  split at h <;> first | (cases h; done) | skip
  have h1 := hx _ rfl
  have h3 := hy _ rfl
  split at h <;> first | (cases h; done) | skip
  rename_i e1
  rw [e1] at h2
  split at h <;> first | (cases h; done) | skip
  rename_i l k z _ n e _ ti e2
  obtain ⟨zz, hty, _⟩ := (hE.get e2).ty
  by_cases hr : 0 ≤ z ∧ z < n
  · rw [decide_eq_true hr.1, decide_eq_true hr.2] at h
    simp only [Bool.and_self, cond_true] at h
    have h11 := mapPut h
    cases hl : ldL l (z.toNat * ti.size) ti.size with
    | none => rw [hl] at h11; cases h11
    | some l' =>
      rw [hl] at h11
      simp only [Option.bind_some] at h11
      obtain ⟨i, hi, hi2, _⟩ := hty.ex
      obtain ⟨h12, h13⟩ := part_run (P := P) (w := w) (β := β) hi hi2 hty.aggp h1.2 hl h11
      refine ⟨fun d pos aft g => ?_, h13⟩
      simp [execOp, h1.1, h3.1, SV.den, Ch.den, Instr.index, asIntOf, run_underlying h2, hr.1, hr.2, hty.runSize w, h12]
  · exfalso
    have : (decide (0 ≤ z) && decide (z < n)) = false := by
      rw [Bool.and_eq_false_iff, decide_eq_false_iff_not, decide_eq_false_iff_not]
      exact Decidable.not_and_iff_or_not.1 hr
    rw [this] at h
    cases h
def partSV : Bool × List Ch → Option SV
  | (true, l) => some (.agg l)
  | (false, [c]) => some (.one c)
  | _ => none
def effExtract (i : Nat) : Option SV → Option Eff
  | some (.tup l) => match (l[i]? : Option (Bool × List Ch)) with | some p => (partSV p).map fun s => .put s [] | none => none
  | _ => none
theorem effExtract_ok {i : Nat} {x : Operand} {xs : Option SV} {s : SV} {vc : List Prop} (hx : Kn β m xs (ρ x)) (h : effExtract i xs = some (.put s vc)) :
    RunV P ρ (.extract x i) ty w (s.den β) ∧ s.Ok m := by
  unfold effExtract at h
  split at h <;> first | (cases h; done) | skip
  rename_i l
  have h1 := hx _ rfl
  split at h <;> first | (cases h; done) | skip
  rename_i p hp
  have h2 := mapPut h
  have hok := h1.2 p (List.mem_of_getElem? hp)
  have hd : s.den β = partDen β p ∧ s.Ok m := by
    unfold partSV at h2
    split at h2 <;> first | (cases h2; done) | skip
    · simp only [Option.some.injEq] at h2; subst h2; exact ⟨rfl, hok⟩
    · simp only [Option.some.injEq] at h2; subst h2; exact ⟨rfl, hok _ (List.mem_cons_self ..)⟩
  refine ⟨fun d pos aft g => ?_, hd.2⟩
  have h1' : ρ x = .tuple (l.map (partDen β)).toArray := h1.1
  simp [execOp, h1', Instr.extract, hp, hd.1]
def effNil : Option SV → Option Eff
  | some (.one (.ptr b o)) => some (.put (.one (.ptr b o)) [])
  | _ => none
theorem effNil_ok {x : Operand} {xs : Option SV} {s : SV} {vc : List Prop} (hx : Kn β m xs (ρ x)) (h : effNil xs = some (.put s vc)) :
    RunV P ρ (.nilCheck x) ty w (s.den β) ∧ s.Ok m := by
  unfold effNil at h
  split at h <;> first | (cases h; done) | skip
  have h1 := hx _ rfl
  simp only [Option.some.injEq] at h
  obtain ⟨rfl, rfl⟩ := put_inj h
  refine ⟨fun d pos aft g => ?_, h1.2⟩
  simp [execOp, h1.1, SV.den, Ch.den]
end
end Go.Proofs.YtpheooheinfbgaaGreatDoor
end
section
set_option linter.unusedVariables false
set_option linter.unusedSimpArgs false
namespace Go.Proofs.YtpheooheinfbgaaGreatDoor
open Go Go.RowKit
def HE.mine (b : Nat) : HE → Nat → Prop
  | .blk _ _, k => k = b
  | .row _ _ v _ _, k => v.ownBlock = some k
  | .gone, _ => False
  | .abs A, k => A.Q k
def mineAt (β : Nat → Nat) (hp : List HE) (i k : Nat) : Prop := ∃ e, hp[i]? = some e ∧ e.mine (β i) k
theorem mineAt_of {β : Nat → Nat} {hp : List HE} {i k : Nat} {e : HE} (h : hp[i]? = some e) : mineAt β hp i k ↔ e.mine (β i) k := by
  unfold mineAt
  rw [h]
  exact ⟨fun ⟨e', h1, h2⟩ => by cases h1; exact h2, fun h => ⟨e, rfl, h⟩⟩
theorem mineAt_none {β : Nat → Nat} {hp : List HE} {i k : Nat} (h : hp[i]? = none) : ¬ mineAt β hp i k := by
  unfold mineAt
  rw [h]
  rintro ⟨e, h1, _⟩
  cases h1
structure Mem (base : Bs) (hp : List HE) (β : Nat → Nat) (w : World) : Prop where
  blk : ∀ (i : Nat) (T : TypeId) (l : List Ch), hp[i]? = some (HE.blk T l) → Blk w (β i) T (cellsL β l) ∧ ∀ c ∈ l, c.Ok hp.length
  row : ∀ (i : Nat) (T : TypeId) (s : Nat) (v : Value) (n : Nat) (cs : List Value), hp[i]? = some (HE.row T s v n cs) → Own 0 T s w v n cs
  abs : ∀ (i : Nat) (A : AbsE), hp[i]? = some (HE.abs A) → A.R w
  low : ∀ i k, mineAt β hp i k → (base.n ≤ k ∨ ¬ base.K k) ∧ k < w.heap.size
  apart : ∀ i j k, mineAt β hp i k → mineAt β hp j k → i = j
def Sof (S0 : Nat → Prop) (β : Nat → Nat) (hp : List HE) : Nat → Prop := fun k => S0 k ∧ ∀ i, ¬ mineAt β hp i k
section
variable {P : Program} {E : Env} {β : Nat → Nat} {m : Nat} {w : World} {ty : TypeId} {ρ : Operand → Value}
def effLoad (E : Env) (hp : List HE) (T : TypeId) : Option SV → Option Eff
  | some (.one (.ptr b o)) => match E.get T, nth hp b with
    | some ti, some (.blk _ l) => ((ldL l o ti.size).bind (mkV ti.agg)).map fun s => .put s []
    | _, _ => none
  | _ => none
theorem loadVar_run {T : TypeId} {ti : TI} {g o : Nat} {T' : TypeId} {l l' : List Ch} {s : SV} (hT : TyOk P T ti) (hb : Blk w g T' (cellsL β l)) (hok : ∀ c ∈ l, c.Ok m) (h1 : ldL l o ti.size = some l') (h2 : mkV ti.agg l' = some s) :
    (loadVar T ⟨g, o, none⟩).run P w = .ok (s.den β) w ∧ s.Ok m := by
  obtain ⟨e1, e2, e3⟩ := ldL_ok (β := β) h1 hok
  obtain ⟨e4, e5, e6⟩ := mkV_ok (β := β) h2 e3
  obtain ⟨z, hty, _⟩ := hT.ty
  have hcell : ∀ i, i < (cellsL β l').length → w.cell? ⟨g, o + i, none⟩ = (cellsL β l')[i]? := by
    intro i hi
    have h3 : (cellsL β l')[i]? = (cellsL β l)[o + i]? := by
      rw [← e1, List.getElem?_take, if_pos (by omega), List.getElem?_drop]
    rw [h3]
    have h4 : o + i < (cellsL β l).length := by
      have : (cellsL β l')[i]? ≠ none := by simp; omega
      rw [h3] at this
      simpa using this
    rw [List.getElem?_eq_getElem h4]
    exact hb.cell (List.getElem?_eq_getElem h4)
  refine ⟨?_, e4⟩
  cases hg : ti.agg with
  | true =>
    rw [hg] at hty
    rw [e5 hg]
    exact load_agg hty e2 hcell
  | false =>
    rw [hg] at hty
    have e7 := e6 hg
    have h5 := hcell 0 (by rw [e7]; simp)
    rw [e7] at h5
    exact load_one hty (by simpa using h5)
theorem effLoad_ok {base : Bs} {hp : List HE} {T : TypeId} {x : Operand} {xs : Option SV} {s : SV} {vc : List Prop} (hE : EnvOk P E) (hm : Mem base hp β w) (hx : Kn β m xs (ρ x)) (h : effLoad E hp T xs = some (.put s vc)) :
    (∀ d pos aft g, (execOp ρ ⟨d, .load T x, ty, pos, aft, g⟩).run P w = .ok (.value (s.den β)) w) ∧ s.Ok hp.length := by
  unfold effLoad at h
  split at h <;> first | (cases h; done) | skip
  rename_i b o
  have h1 := (hx _ rfl).1
  split at h <;> first | (cases h; done) | skip
  rename_i ti T' l e1 e2
  have h11 := mapPut h
  rw [nth_eq] at e2
  obtain ⟨hb, hok⟩ := hm.blk b T' l e2
  cases hl : ldL l o ti.size with
  | none => rw [hl] at h11; cases h11
  | some l' =>
    rw [hl] at h11
    simp only [Option.bind_some] at h11
    obtain ⟨h2, h3⟩ := loadVar_run (P := P) (hE.get e1) hb hok hl h11
    refine ⟨fun d pos aft g => ?_, h3⟩
    simp [execOp, h1, SV.den, Ch.den, Instr.loadAt, Instr.sureAddr, h2]
def effStore (E : Env) (hp : List HE) (T : TypeId) : Option SV → Option SV → Option Eff
  | some (.one (.ptr b o)), some y => match E.get T, nth hp b, y.chunks with
    | some ti, some (.blk _ l), some new => bif Nat.beq (sizeL new) ti.size then (stL l o ti.size new).map fun l' => .wr b l' else none
    | _, _, _ => none
  | _, _ => none
theorem effStore_ok {base : Bs} {hp : List HE} {T : TypeId} {x y : Operand} {xs ys : Option SV} {b : Nat} {l' : List Ch} (hE : EnvOk P E) (hm : Mem base hp β w) (hx : Kn β hp.length xs (ρ x)) (hy : Kn β hp.length ys (ρ y))
    (h : effStore E hp T xs ys = some (.wr b l')) : ∃ T' l w', hp[b]? = some (HE.blk T' l) ∧ (∀ c ∈ l', c.Ok hp.length) ∧ Wrt (β b) w w' ∧ Blk w' (β b) T' (cellsL β l') ∧
      ∀ d pos aft g, (execOp ρ ⟨d, .store T x y, ty, pos, aft, g⟩).run P w = .ok .skip w' := by
  unfold effStore at h
  split at h <;> first | (cases h; done) | skip
  rename_i b' o yv
  have h1 := (hx _ rfl).1
  have h2 := hy _ rfl
  split at h <;> first | (cases h; done) | skip
  rename_i ti T' l new e1 e2 e3
  cases hs : Nat.beq (sizeL new) ti.size with
  | false => rw [hs] at h; cases h
  | true =>
    rw [hs] at h
    simp only [cond_true] at h
    cases hst : stL l o ti.size new with
    | none => rw [hst] at h; cases h
    | some l2 =>
      rw [hst] at h
      simp only [Option.map_some, Option.some.injEq] at h
      cases h
      rw [nth_eq] at e2
      obtain ⟨hb, hok⟩ := hm.blk b T' l e2
      obtain ⟨h3, h4⟩ := SV.chunks_ok (β := β) e3 h2.2
      obtain ⟨h5, h6, h7⟩ := stL_ok (β := β) hst hok h4
      obtain ⟨z, hty, _⟩ := (hE.get e1).ty
      have hlen := cellsL_len (β := β) h4
      have hsz := Nat.eq_of_beq_eq_true hs
      have h8 := run_storeCells_at P (β b) o T' (cellsL β new) 0 (cellsL β l).toArray w hb (by simp; omega) (cellsL_one h4)
      have e9 : ((cellsL β l).toArray.toList.take (o + 0) ++ cellsL β new ++ (cellsL β l).toArray.toList.drop (o + 0 + (cellsL β new).length)).toArray = (cellsL β l').toArray := by
        rw [← h5]
        simp [hlen, hsz]
      rw [e9] at h8
      refine ⟨T', l, w.setRow (β b) (cellsL β l').toArray, e2, h7, ⟨rfl, rfl, rfl, by simp [World.setRow], fun k _ hk => setRow_other w _ k _ hk⟩, setRow_heap w _ _ _ T' (0, 0) hb, fun d pos aft g => ?_⟩
      have e10 : (cellsL β new).length = ti.size := by omega
      have h11 : ρ x = .pointer (some ⟨β b, o, none⟩) := h1
      simp [execOp, h11, h2.1, Instr.storeAt, Instr.sureAddr, storeVar, hty.runSize w, h3, e10, h8]
def effBox (T : TypeId) (k : Nat) : Option SV → Option Eff
  | some x => x.chunks.map fun l => .mk T l (.one (.ptr k 0))
  | none => none
theorem effBox_ok {T : TypeId} {k : Nat} {x : Operand} {xs : Option SV} {T' : TypeId} {l : List Ch} {s : SV} (hx : Kn β m xs (ρ x)) (h : effBox T k xs = some (.mk T' l s)) :
    T' = T ∧ s = .one (.ptr k 0) ∧ (∀ c ∈ l, c.Ok m) ∧ ∀ d pos aft g, (execOp ρ ⟨d, .box T x, ty, pos, aft, g⟩).run P w = .ok (.value (.pointer (some ⟨w.heap.size, 0, none⟩))) (w.alloc (.cells (cellsL β l).toArray T)) := by
  unfold effBox at h
  split at h <;> first | (cases h; done) | skip
  rename_i xv
  have h1 := hx _ rfl
  cases hc : xv.chunks with
  | none => rw [hc] at h; cases h
  | some l2 =>
    rw [hc] at h
    simp only [Option.map_some, Option.some.injEq] at h
    cases h
    obtain ⟨h3, h4⟩ := SV.chunks_ok (β := β) hc h1.2
    exact ⟨rfl, rfl, h4, fun d pos aft g => by simp [execOp, h1.1, Instr.box, newVar, newRow, h3]⟩
def effAlloc (E : Env) (T : TypeId) (k : Nat) : Option Eff := (E.get T).map fun ti => .mk T ti.zero (.one (.ptr k 0))
theorem effAlloc_ok {T : TypeId} {k : Nat} {T' : TypeId} {l : List Ch} {s : SV} (hE : EnvOk P E) (h : effAlloc E T k = some (.mk T' l s)) :
    T' = T ∧ s = .one (.ptr k 0) ∧ (∀ c ∈ l, c.Ok m) ∧ ∀ d pos aft g, (execOp ρ ⟨d, .alloc T, ty, pos, aft, g⟩).run P w = .ok (.value (.pointer (some ⟨w.heap.size, 0, none⟩))) (w.alloc (.cells (cellsL β l).toArray T)) := by
  unfold effAlloc at h
  cases ht : E.get T with
  | none => rw [ht] at h; cases h
  | some ti =>
    rw [ht] at h
    simp only [Option.map_some, Option.some.injEq] at h
    cases h
    have hok := (hE.get ht).ok
    obtain ⟨z, hty, hz⟩ := (hE.get ht).ty
    have e : cellsL (fun _ => 0) ti.zero = cellsL β ti.zero := cellsL_congr (m := 0) (fun i hi => absurd hi (Nat.not_lt_zero i)) hok
    rw [e] at hz
    exact ⟨rfl, rfl, fun c hc => (hok c hc).le (Nat.zero_le _), fun d pos aft g => by simp [execOp, Instr.alloc, hty.runZero w, newVar, newRow, hz]⟩
def fillL (pl : Nat → Option (Nat × Nat)) : List Ch → List (Nat × Option SV) → Option (List Ch)
  | l, [] => some l
  | l, (i, x) :: r => match pl i, x.bind SV.chunks with
    | some (o, sz), some new => bif Nat.beq (sizeL new) sz then (stL l o sz new).bind fun l' => fillL pl l' r else none
    | _, _ => none
theorem fold_set : ∀ (vs : List Value) (cs : Array Value) (o : Nat) (k : Nat), o + k + vs.length ≤ cs.size →
    ((vs.zipIdx k).foldl (fun cs (p : Value × Nat) => cs.setIfInBounds (o + p.2) p.1) cs).toList = cs.toList.take (o + k) ++ vs ++ cs.toList.drop (o + k + vs.length) := by
  intro vs
  induction vs with
  | nil => intro cs o k h; simp
  | cons v r ih =>
    intro cs o k h
    simp only [List.zipIdx_cons, List.foldl_cons, List.length_cons] at h ⊢
    rw [ih _ o (k + 1) (by simp; omega)]
    simp only [Array.toList_setIfInBounds]
    have h1 : (cs.toList.set (o + k) v).take (o + (k + 1)) = cs.toList.take (o + k) ++ [v] := by
      rw [show o + (k + 1) = o + k + 1 by omega, List.take_add_one, List.take_set_of_le (Nat.le_refl _), List.getElem?_set_self (by simp; omega)]
      rfl
    have h2 : (cs.toList.set (o + k) v).drop (o + (k + 1) + r.length) = cs.toList.drop (o + k + (r.length + 1)) := by
      rw [List.drop_set_of_lt (by omega)]
      congr 1
      omega
    rw [h1, h2]
    simp
theorem fillL_ok {pl : Nat → Option (Nat × Nat)} : ∀ {ps : List (Nat × Option SV)} {vs : List (Nat × Value)} {l l' : List Ch}, ps.length = vs.length → (∀ (i : Nat) (p : Nat × Option SV) (v : Nat × Value), ps[i]? = some p → vs[i]? = some v → p.1 = v.1 ∧ Kn β m p.2 v.2) →
    (∀ c ∈ l, c.Ok m) → fillL pl l ps = some l' → Instr.fill pl (cellsL β l).toArray vs = some (cellsL β l').toArray ∧ ∀ c ∈ l', c.Ok m := by
  intro ps
  induction ps with
  | nil =>
    intro vs l l' hl hk hok h
    simp only [fillL, Option.some.injEq] at h
    subst h
    cases vs with
    | nil => exact ⟨rfl, hok⟩
    | cons v r => simp at hl
  | cons p r ih =>
    intro vs l l' hl hk hok h
    obtain ⟨i, x⟩ := p
    cases vs with
    | nil => simp at hl
    | cons v vr =>
      obtain ⟨i', v⟩ := v
      obtain ⟨h1, h2⟩ := hk 0 _ _ rfl rfl
      simp only at h1 h2
      subst h1
      simp only [fillL] at h
      split at h <;> first | (cases h; done) | skip
      rename_i o sz new e1 e2
      cases hs : Nat.beq (sizeL new) sz with
      | false => rw [hs] at h; cases h
      | true =>
        rw [hs] at h
        simp only [cond_true] at h
        cases hst : stL l o sz new with
        | none => rw [hst] at h; cases h
        | some l2 =>
          rw [hst] at h
          simp only [Option.bind_some] at h
          cases x with
          | none => cases e2
          | some xv =>
            simp only [Option.bind_some] at e2
            obtain ⟨h3, h4⟩ := h2 _ rfl
            obtain ⟨h5, h6⟩ := SV.chunks_ok (β := β) e2 h4
            obtain ⟨h7, h8, h9⟩ := stL_ok (β := β) hst hok h6
            have hlen := cellsL_len (β := β) h6
            have hsz := Nat.eq_of_beq_eq_true hs
            obtain ⟨h10, h11⟩ := ih (vs := vr) (by simpa using hl) (fun j p v hp hv => hk (j + 1) p v (by simpa using hp) (by simpa using hv)) h9 h
            refine ⟨?_, h11⟩
            rw [Instr.fill]
            simp only [e1]
            rw [h3, h5]
            have hno : ((cellsL β new).toArray.size ≠ sz || decide (o + (cellsL β new).toArray.size > (cellsL β l).toArray.size)) = false := by
              simp
              omega
            rw [if_neg (by rw [hno]; simp), ← h10]
            congr 1
            apply Array.toList_inj.1
            have hf := fold_set (cellsL β new) (cellsL β l).toArray o 0 (by simp; omega)
            rw [← Array.foldl_toList]
            simp only [Array.toList_zipIdx, List.toList_toArray] at hf ⊢
            rw [hf, ← h7]
            simp
            omega
def offs (fs : List (Nat × Nat × Bool)) (i : Nat) : Option (Nat × Nat) := (fs[i]?).map fun p => (p.1, p.2.1)
def effBuild (E : Env) (T : TypeId) (ps : List (Nat × Option SV)) : Option Eff :=
  match E.get T with
  | some ti => match ti.kind with
    | .struct fs => (fillL (offs fs) ti.zero ps).map fun l => .put (.agg l) []
    | .array _ e => match E.get e with
      | some te => (fillL (fun i => some (i * te.size, te.size)) ti.zero ps).map fun l => .put (.agg l) []
      | none => none
    | _ => none
  | none => none
theorem effBuild_ok {T : TypeId} {parts : Array (Nat × Operand)} {f : Operand → Option SV} {s : SV} {vc : List Prop} (hE : EnvOk P E) (hx : ∀ p ∈ parts.toList, Kn β m (f p.2) (ρ p.2))
    (h : effBuild E T (parts.toList.map fun p => (p.1, f p.2)) = some (.put s vc)) : RunV P ρ (.build T parts) ty w (s.den β) ∧ s.Ok m := by
  unfold effBuild at h
  split at h <;> first | (cases h; done) | skip
  rename_i ti e1
  obtain ⟨z, hty, hz⟩ := (hE.get e1).ty
  have hok := (hE.get e1).ok
  have hkd := (hE.get e1).kind
  have e : cellsL (fun _ => 0) ti.zero = cellsL β ti.zero := cellsL_congr (m := 0) (fun i hi => absurd hi (Nat.not_lt_zero i)) hok
  rw [e] at hz
  have hk2 : ∀ (i : Nat) (p : Nat × Option SV) (v : Nat × Value), (parts.toList.map fun p => (p.1, f p.2))[i]? = some p → (parts.toList.map fun p => (p.1, ρ p.2))[i]? = some v → p.1 = v.1 ∧ Kn β m p.2 v.2 := by
    intro i p v hp hv
    simp only [List.getElem?_map] at hp hv
    cases hi : parts.toList[i]? with
    | none => rw [hi] at hp; cases hp
    | some q =>
      rw [hi] at hp hv
      simp only [Option.map_some, Option.some.injEq] at hp hv
      subst hp hv
      exact ⟨rfl, hx q (List.mem_of_getElem? hi)⟩
  have hok' : ∀ c ∈ ti.zero, c.Ok m := fun c hc => (hok c hc).le (Nat.zero_le _)
  split at h <;> first | (cases h; done) | skip
  · rename_i fs e2
    rw [e2] at hkd
    obtain ⟨fl, h3, h4, h5⟩ := hkd
    cases hf : fillL (offs fs) ti.zero (parts.toList.map fun p => (p.1, f p.2)) with
    | none => rw [hf] at h; cases h
    | some l =>
      rw [hf] at h
      simp only [Option.map_some, Option.some.injEq] at h
      obtain ⟨rfl, rfl⟩ := put_inj h
      obtain ⟨h6, h7⟩ := fillL_ok (β := β) (m := m) (vs := parts.toList.map fun p => (p.1, ρ p.2)) (by simp) hk2 hok' hf
      refine ⟨fun d pos aft g => ?_, h7⟩
      have h8 : Instr.fill (fun i => Option.map (fun p : Nat × Nat × Bool => (p.1, p.2.1)) fs[i]?) (cellsL β ti.zero).toArray (parts.toList.map fun p => (p.1, ρ p.2)) = some (cellsL β l).toArray := h6
      simp [execOp, Instr.build, hty.runZero w, run_underlying h3, h5, hz, h8, SV.den]
  · rename_i n e0 e2
    rw [e2] at hkd
    split at h <;> first | (cases h; done) | skip
    rename_i te e3
    obtain ⟨ze, htye, _⟩ := (hE.get e3).ty
    cases hf : fillL (fun i => some (i * te.size, te.size)) ti.zero (parts.toList.map fun p => (p.1, f p.2)) with
    | none => rw [hf] at h; cases h
    | some l =>
      rw [hf] at h
      simp only [Option.map_some, Option.some.injEq] at h
      obtain ⟨rfl, rfl⟩ := put_inj h
      obtain ⟨h6, h7⟩ := fillL_ok (β := β) (m := m) (vs := parts.toList.map fun p => (p.1, ρ p.2)) (by simp) hk2 hok' hf
      refine ⟨fun d pos aft g => ?_, h7⟩
      have hkd' : P.underlying T = some (.array n e0) := hkd
      simp [execOp, Instr.build, hty.runZero w, run_underlying hkd', htye.runSize w, hz, h6, SV.den]
end
end Go.Proofs.YtpheooheinfbgaaGreatDoor
end
section
set_option linter.unusedVariables false
set_option linter.unusedSimpArgs false
namespace Go.Proofs.YtpheooheinfbgaaGreatDoor
open Go Go.RowKit
section
variable {P : Program} {E : Env} {β : Nat → Nat} {m : Nat} {w : World} {ty : TypeId} {ρ : Operand → Value}
def rowL (sz : Nat) : Nat → List (Nat × Option SV) → Option (List Ch)
  | _, [] => some []
  | i, (j, x) :: r => match x.bind SV.chunks with
    | some new => bif Nat.beq i j && Nat.beq (sizeL new) sz then (rowL sz (i + 1) r).map (new ++ ·) else none
    | none => none
theorem rowL_ok {sz : Nat} : ∀ {ps : List (Nat × Option SV)} {vs : List (Nat × Value)} {l : List Ch} {i : Nat} {arr : Array Value}, ps.length = vs.length → (∀ (i : Nat) (p : Nat × Option SV) (v : Nat × Value), ps[i]? = some p → vs[i]? = some v → p.1 = v.1 ∧ Kn β m p.2 v.2) →
    arr.size = (i + ps.length) * sz → rowL sz i ps = some l → Instr.fill (fun i => some (i * sz, sz)) arr vs = some (arr.toList.take (i * sz) ++ cellsL β l).toArray ∧ ∀ c ∈ l, c.Ok m := by
  intro ps
  induction ps with
  | nil =>
    intro vs l i arr hl hk hz h
    simp only [rowL, Option.some.injEq] at h
    subst h
    cases vs with
    | nil =>
      refine ⟨?_, fun c hc => by cases hc⟩
      simp only [Instr.fill, cellsL, List.flatMap_nil, List.append_nil]
      congr 1
      apply Array.toList_inj.1
      simp only [List.length_nil, Nat.add_zero] at hz
      simp only [List.toList_toArray]
      rw [List.take_of_length_le (by simp; omega)]
    | cons v r => simp at hl
  | cons p r ih =>
    intro vs l i arr hl hk hz h
    obtain ⟨j, x⟩ := p
    cases vs with
    | nil => simp at hl
    | cons v vr =>
      obtain ⟨j', v⟩ := v
      obtain ⟨h1, h2⟩ := hk 0 _ _ rfl rfl
      simp only at h1 h2
      subst h1
      simp only [rowL] at h
      split at h <;> first | (cases h; done) | skip
      rename_i new e2
      cases hs : (Nat.beq i j && Nat.beq (sizeL new) sz) with
      | false => rw [hs] at h; cases h
      | true =>
        rw [hs] at h
        simp only [Bool.and_eq_true] at hs
        obtain rfl := Nat.eq_of_beq_eq_true hs.1
        have hsz := Nat.eq_of_beq_eq_true hs.2
        cases x with
        | none => cases e2
        | some xv =>
          simp only [Option.bind_some] at e2
          obtain ⟨h3, h4⟩ := h2 _ rfl
          obtain ⟨h5, h6⟩ := SV.chunks_ok (β := β) e2 h4
          have hlen := cellsL_len (β := β) h6
          cases hr : rowL sz (i + 1) r with
          | none => rw [hr] at h; cases h
          | some l2 =>
            rw [hr] at h
            simp only [cond_true, Option.map_some, Option.some.injEq] at h
            subst h
            have hz1 : arr.size = i * sz + sz + r.length * sz := by
              rw [hz, List.length_cons, Nat.add_mul, Nat.add_mul, Nat.one_mul]; omega
            have hf := fold_set (cellsL β new) arr (i * sz) 0 (by omega)
            have ih2 := ih (vs := vr) (l := l2) (i := i + 1) (arr := (arr.toList.take (i * sz) ++ cellsL β new ++ arr.toList.drop (i * sz + sz)).toArray) (by simpa using hl) (fun j p v hp hv => hk (j + 1) p v (by simpa using hp) (by simpa using hv)) (by
              simp only [List.size_toArray, List.length_append, List.length_take, List.length_drop, Array.length_toList, hlen, hsz]
              rw [show (i + 1 + r.length) * sz = i * sz + sz + r.length * sz by rw [Nat.add_mul, Nat.add_mul, Nat.one_mul]]
              omega) hr
            refine ⟨?_, ?_⟩
            · rw [Instr.fill]
              simp only
              rw [h3, h5]
              have hno : ((cellsL β new).toArray.size ≠ sz || decide (i * sz + (cellsL β new).toArray.size > arr.size)) = false := by
                simp
                omega
              rw [if_neg (by rw [hno]; simp)]
              have e3 : Array.foldl (fun cs (x : Value × Nat) => cs.setIfInBounds (i * sz + x.snd) x.fst) arr (cellsL β new).toArray.zipIdx = (arr.toList.take (i * sz) ++ cellsL β new ++ arr.toList.drop (i * sz + sz)).toArray := by
                apply Array.toList_inj.1
                rw [← Array.foldl_toList]
                simp only [Array.toList_zipIdx, List.toList_toArray] at hf ⊢
                rw [hf]
                simp [hlen, hsz]
              rw [e3, ih2.1]
              congr 2
              rw [show (i + 1) * sz = i * sz + sz by rw [Nat.add_mul, Nat.one_mul]]
              have e4 : (arr.toList.take (i * sz) ++ cellsL β new).length = i * sz + sz := by
                simp only [List.length_append, List.length_take, Array.length_toList, hlen, hsz]
                omega
              rw [List.take_append, e4, Nat.sub_self, List.take_zero, List.append_nil, List.take_of_length_le (by omega)]
              simp [cellsL]
            · intro c hc
              rcases List.mem_append.1 hc with hc | hc
              · exact h6 c hc
              · exact ih2.2 c hc
def effLit (E : Env) (T : TypeId) (n k : Nat) (ps : List (Nat × Option SV)) : Option Eff :=
  match kindOf E T with
  | .slice e => match E.get e with
    | some te => bif Nat.ble (n * te.size) 16777216 && Nat.beq ps.length n then (rowL te.size 0 ps).map fun l => .mk e l (.one (.win k 0 n n)) else none
    | none => none
  | _ => none
theorem effLit_ok {T T' : TypeId} {n k : Nat} {parts : Array (Nat × Operand)} {f : Operand → Option SV} {l : List Ch} {s : SV} (hE : EnvOk P E) (hx : ∀ p ∈ parts.toList, Kn β m (f p.2) (ρ p.2))
    (h : effLit E T n k (parts.toList.map fun p => (p.1, f p.2)) = some (.mk T' l s)) :
    s = .one (.win k 0 n n) ∧ (∀ c ∈ l, c.Ok m) ∧ ∀ d pos aft g, (execOp ρ ⟨d, .buildSlice T n parts, ty, pos, aft, g⟩).run P w = .ok (.value (.slice (some ⟨w.heap.size, 0, none⟩) n n)) (w.alloc (.cells (cellsL β l).toArray T')) := by
  have hkd := kindOf_ok (t := T) hE
  unfold effLit at h
  split at h <;> first | (cases h; done) | skip
  rename_i e e1
  rw [e1] at hkd
  split at h <;> first | (cases h; done) | skip
  rename_i te e2
  obtain ⟨z, hty, hz⟩ := (hE.get e2).ty
  cases hb : (Nat.ble (n * te.size) 16777216 && Nat.beq (parts.toList.map fun p => (p.1, f p.2)).length n) with
  | false => rw [hb] at h; cases h
  | true =>
    rw [hb] at h
    simp only [Bool.and_eq_true] at hb
    have hle := Nat.le_of_ble_eq_true hb.1
    have hlen := Nat.eq_of_beq_eq_true hb.2
    cases hr : rowL te.size 0 (parts.toList.map fun p => (p.1, f p.2)) with
    | none => rw [hr] at h; cases h
    | some l2 =>
      rw [hr] at h
      simp only [cond_true, Option.map_some, Option.some.injEq] at h
      cases h
      have hk2 : ∀ (i : Nat) (p : Nat × Option SV) (v : Nat × Value), (parts.toList.map fun p => (p.1, f p.2))[i]? = some p → (parts.toList.map fun p => (p.1, ρ p.2))[i]? = some v → p.1 = v.1 ∧ Kn β m p.2 v.2 := by
        intro i p v hp hv
        simp only [List.getElem?_map] at hp hv
        cases hi : parts.toList[i]? with
        | none => rw [hi] at hp; cases hp
        | some q =>
          rw [hi] at hp hv
          simp only [Option.map_some, Option.some.injEq] at hp hv
          subst hp hv
          exact ⟨rfl, hx q (List.mem_of_getElem? hi)⟩
      have hfill : ∀ arr : Array Value, arr.size = n * te.size → Instr.fill (fun i => some (i * te.size, te.size)) arr (parts.toList.map fun p => (p.1, ρ p.2)) = some (cellsL β l).toArray ∧ ∀ c ∈ l, c.Ok m := by
        intro arr ha
        have h1 := rowL_ok (β := β) (m := m) (vs := parts.toList.map fun p => (p.1, ρ p.2)) (arr := arr) (by simp) hk2 (by rw [hlen, ha, Nat.zero_add]) hr
        simpa using h1
      refine ⟨rfl, (hfill (Array.replicate (n * te.size) undef) (by simp)).2, fun d pos aft g => ?_⟩
      have hkd' : P.underlying T = some (.slice T') := hkd
      by_cases h0 : n * te.size = 0
      · have hf := (hfill (Array.map (fun _ => default) (Array.range 0)) (by simp [h0])).1
        simp [execOp, Instr.buildSlice, run_underlying hkd', hty.runSize w, h0, newRow, hf]
      · have hf := (hfill ((Array.range (n * te.size)).map (z.cells[· % z.cells.size]!)) (by simp)).1
        have hgt : ¬ 16777216 < n * te.size := by omega
        simp [execOp, Instr.buildSlice, run_underlying hkd', hty.runSize w, h0, hty.runZero w, newRow, hf, hgt]
def closedCh : Ch → Bool
  | .ptr _ _ => false
  | .win _ _ _ _ => false
  | .fn _ cap => cap.all fun c => match c with | .inl _ => false | .inr _ => true
  | _ => true
theorem closedCh_ok {c : Ch} (h : closedCh c = true) (ok : c.Ok m) : c.Ok 0 := by
  cases c with
  | ptr b o => cases h
  | win b o n c => cases h
  | fn g cap =>
    intro b hb
    have := List.all_eq_true.1 h _ hb
    cases this
  | _ => exact ok
def plainKd : TKd → Bool
  | .iface => false
  | .other => false
  | _ => true
noncomputable def effIface (E : Env) (T : TypeId) : Option SV → Option Eff
  | some (.one c) => bif plainKd (kindOf E T) && closedCh c then some (.put (.one (.val (.iface T (c.den fun _ => 0)))) []) else none
  | some (.agg l) => bif plainKd (kindOf E T) && l.all closedCh then some (.put (.one (.val (.iface T (SV.den (fun _ => 0) (.agg l))))) []) else none
  | _ => none
theorem plainKd_run {t : TypeId} {k : TKd} (hk : KindOk P t k) (hp : plainKd k = true) : ∃ d, P.underlying t = some d ∧ ∀ ms, d ≠ .interface ms := by
  cases k <;> first | (cases hp; done) | skip
  case struct fs => obtain ⟨fl, h, _⟩ := hk; exact ⟨_, h, fun ms h => by cases h⟩
  all_goals exact ⟨_, hk, fun ms h => by cases h⟩
theorem effIface_ok {T : TypeId} {x : Operand} {xs : Option SV} {s : SV} {vc : List Prop} (hE : EnvOk P E) (hx : Kn β m xs (ρ x)) (h : effIface E T xs = some (.put s vc)) :
    RunV P ρ (.makeInterface T x) ty w (s.den β) ∧ s.Ok m := by
  have hkd := kindOf_ok (t := T) hE
  have hrun : ∀ v, ρ x = v → plainKd (kindOf E T) = true → ∀ d pos aft g, (execOp ρ ⟨d, .makeInterface T x, ty, pos, aft, g⟩).run P w = .ok (.value (.iface T v)) w := by
    intro v hv hp d pos aft g
    obtain ⟨td, h1, h2⟩ := plainKd_run hkd hp
    subst hv
    have h3 : (Instr.makeInterface T (ρ x)).run P w = .ok (.iface T (ρ x)) w := by
      unfold Instr.makeInterface
      simp only [Sem.run_bind, run_underlying h1, Result.andThen]
      cases td <;> first | rfl | exact absurd rfl (h2 _)
    simp [execOp, h3]
  unfold effIface at h
  split at h <;> first | (cases h; done) | skip
  · rename_i c
    have h1 := hx _ rfl
    cases hb : (plainKd (kindOf E T) && closedCh c) with
    | false => rw [hb] at h; cases h
    | true =>
      rw [hb] at h
      simp only [Bool.and_eq_true] at hb
      simp only [cond_true, Option.some.injEq] at h
      obtain ⟨rfl, rfl⟩ := put_inj h
      refine ⟨fun d pos aft g => ?_, rfl⟩
      have e : (SV.one c).den β = c.den fun _ => 0 := SV.den_congr (s := .one c) (m := 0) (fun i hi => absurd hi (Nat.not_lt_zero i)) (closedCh_ok hb.2 h1.2)
      rw [hrun _ (h1.1.trans e) hb.1]
      rfl
  · rename_i l
    have h1 := hx _ rfl
    cases hb : (plainKd (kindOf E T) && l.all closedCh) with
    | false => rw [hb] at h; cases h
    | true =>
      rw [hb] at h
      simp only [Bool.and_eq_true] at hb
      simp only [cond_true, Option.some.injEq] at h
      obtain ⟨rfl, rfl⟩ := put_inj h
      refine ⟨fun d pos aft g => ?_, rfl⟩
      have e : (SV.agg l).den β = SV.den (fun _ => 0) (.agg l) := SV.den_congr (s := .agg l) (m := 0) (fun i hi => absurd hi (Nat.not_lt_zero i)) (fun c hc => closedCh_ok (List.all_eq_true.1 hb.2 c hc) (h1.2 c hc))
      rw [hrun _ (h1.1.trans e) hb.1]
      rfl
def bnd : Option (Option SV) → Nat → Option Nat
  | none, d => some d
  | some (some (.one (.lit .i64 z))), _ => bif decide (0 ≤ z) then some z.toNat else none
  | _, _ => none
def effWin (E : Env) (T : TypeId) (x : Option SV) (lo hi mx : Option (Option SV)) : Option Eff :=
  match x, kindOf E T with
  | some (.one (.ptr b o)), .array n e => match E.get e, bnd mx n with
    | some te, some c => match bnd hi n with
      | some h => match bnd lo 0 with
        | some l => bif Nat.ble l h && Nat.ble h c && Nat.ble c n && (mx.isNone || hi.isSome) then some (.put (.one (.win b (bif Nat.beq c l then o else o + l * te.size) (h - l) (c - l))) []) else none
        | none => none
      | none => none
    | _, _ => none
  | _, _ => none
theorem bnd_run {x : Option (Option SV)} {xo : Option Operand} {d k y : Nat} {code : BoundsCode} {v : Value} (h : bnd x d = some k) (hs : x.isSome = true) (hk : ∀ o, xo = some o → Kn β m (x.getD none) (ρ o)) (hx : xo.map ρ = some v) (hle : k ≤ y) :
    (Instr.sliceBound v y code).run P w = .ok k w := by
  cases xo with
  | none => cases hx
  | some o =>
    simp only [Option.map_some, Option.some.injEq] at hx
    subst hx
    unfold bnd at h
    split at h <;> first | (cases h; done) | skip
    · cases hs
    · rename_i z
      have h1 := (hk o rfl _ rfl).1
      by_cases h0 : 0 ≤ z
      · rw [decide_eq_true h0] at h
        simp only [cond_true, Option.some.injEq] at h
        subst h
        simp only [SV.den, Ch.den] at h1
        have h2 : z ≤ (y : Int) := by omega
        simp [Instr.sliceBound, h1, asIntOf, h0, h2]
      · rw [decide_eq_false h0] at h
        cases h
theorem effWin_ok {T : TypeId} {x : Operand} {lo hi mx : Option Operand} {f : Operand → Option SV} {s : SV} {vc : List Prop} (hE : EnvOk P E) (hx : Kn β m (f x) (ρ x)) (hl : ∀ o, lo = some o → Kn β m (f o) (ρ o)) (hh : ∀ o, hi = some o → Kn β m (f o) (ρ o)) (hmx : ∀ o, mx = some o → Kn β m (f o) (ρ o))
    (h : effWin E T (f x) (lo.map f) (hi.map f) (mx.map f) = some (.put s vc)) : RunV P ρ (.slice T x lo hi mx) ty w (s.den β) ∧ s.Ok m := by
  have hkd := kindOf_ok (t := T) hE
  unfold effWin at h
  split at h <;> first | (cases h; done) | skip
  rename_i b o n e e1 e2
  rw [e2] at hkd
  have h1 := hx _ e1
  split at h <;> first | (cases h; done) | skip
  rename_i te c e3 e4
  obtain ⟨z, hty, _⟩ := (hE.get e3).ty
  split at h <;> first | (cases h; done) | skip
  rename_i hh' e5
  split at h <;> first | (cases h; done) | skip
  rename_i l e6
  cases hb : (Nat.ble l hh' && Nat.ble hh' c && Nat.ble c n && ((mx.map f).isNone || (hi.map f).isSome)) with
  | false => rw [hb] at h; cases h
  | true =>
    rw [hb] at h
    simp only [Bool.and_eq_true] at hb
    obtain ⟨⟨⟨b1, b2⟩, b3⟩, b4⟩ := hb
    have c1 := Nat.le_of_ble_eq_true b1
    have c2 := Nat.le_of_ble_eq_true b2
    have c3 := Nat.le_of_ble_eq_true b3
    simp only [cond_true, Option.some.injEq] at h
    obtain ⟨rfl, rfl⟩ := put_inj h
    refine ⟨fun d pos aft g => ?_, h1.2⟩
    have hbs : (Instr.sliceBounds false n n (lo.map ρ) (hi.map ρ) (mx.map ρ)).run P w = .ok (l, hh', c) w := by
      unfold Instr.sliceBounds
      cases mx with
      | none =>
        have ec : c = n := by simpa [bnd] using e4.symm
        subst ec
        cases hi with
        | none =>
          have eh : hh' = c := by simpa [bnd] using e5.symm
          subst eh
          cases lo with
          | none =>
            have el : l = 0 := by simpa [bnd] using e6.symm
            subst el
            simp
          | some lo' =>
            have r1 := fun code => bnd_run (P := P) (w := w) (ρ := ρ) (β := β) (m := m) (y := hh') (code := code) (v := ρ lo') e6 rfl (xo := some lo') (fun o ho => by cases ho; exact hl _ rfl) rfl c1
            simp [r1]
        | some hi' =>
          have r2 := fun code => bnd_run (P := P) (w := w) (ρ := ρ) (β := β) (m := m) (y := c) (code := code) (v := ρ hi') e5 rfl (xo := some hi') (fun o ho => by cases ho; exact hh _ rfl) rfl c2
          cases lo with
          | none =>
            have el : l = 0 := by simpa [bnd] using e6.symm
            subst el
            simp [r2]
          | some lo' =>
            have r1 := fun code => bnd_run (P := P) (w := w) (ρ := ρ) (β := β) (m := m) (y := hh') (code := code) (v := ρ lo') e6 rfl (xo := some lo') (fun o ho => by cases ho; exact hl _ rfl) rfl c1
            simp [r1, r2]
      | some mx' =>
        have r3 := fun code => bnd_run (P := P) (w := w) (ρ := ρ) (β := β) (m := m) (y := n) (code := code) (v := ρ mx') e4 rfl (xo := some mx') (fun o ho => by cases ho; exact hmx _ rfl) rfl c3
        cases hi with
        | none => simp at b4
        | some hi' =>
          have r2 := fun code => bnd_run (P := P) (w := w) (ρ := ρ) (β := β) (m := m) (y := c) (code := code) (v := ρ hi') e5 rfl (xo := some hi') (fun o ho => by cases ho; exact hh _ rfl) rfl c2
          cases lo with
          | none =>
            have el : l = 0 := by simpa [bnd] using e6.symm
            subst el
            simp [r2, r3]
          | some lo' =>
            have r1 := fun code => bnd_run (P := P) (w := w) (ρ := ρ) (β := β) (m := m) (y := hh') (code := code) (v := ρ lo') e6 rfl (xo := some lo') (fun o ho => by cases ho; exact hl _ rfl) rfl c1
            simp [r1, r2, r3]
    have h1' : ρ x = .pointer (some ⟨β b, o, none⟩) := h1.1
    have hkd' : P.underlying T = some (.array n e) := hkd
    have e7 : (if c = l then (⟨β b, o, none⟩ : Addr) else (⟨β b, o, none⟩ : Addr).add (l * te.size)) = ⟨β b, bif Nat.beq c l then o else o + l * te.size, none⟩ := by
      by_cases hcl : c = l
      · subst hcl; simp
      · have : Nat.beq c l = false := by
          cases hq : Nat.beq c l with
          | false => rfl
          | true => exact absurd (Nat.eq_of_beq_eq_true hq) hcl
        rw [if_neg hcl, add_addr, this]
        rfl
    simp [execOp, h1', Instr.sliceAt, run_underlying hkd', Instr.sureAddr, hbs, hty.runSize w, e7, SV.den, Ch.den]
def effCall (E : Env) (cl : Callee) (ts : List TypeId) (xs : List (Option SV)) : Option Eff :=
  match cl, ts, xs with
  | .builtin .len, [t], [some (.one (.sl _ n))] => match kindOf E t with | .slice _ => some (.put (.one (.int .i64 n)) []) | _ => none
  | .builtin .len, [t], [some (.one (.win _ _ n _))] => match kindOf E t with | .slice _ => some (.put (.one (.lit .i64 n)) []) | _ => none
  | .builtin .len, [t], [some (.one (.str l))] => match kindOf E t with | .str => some (.put (.one (.int .i64 l.length)) []) | _ => none
  | .builtin .max, _, [some (.one (.lit k a)), some (.one (.lit _ b))] => some (.put (.one (.lit k (max a b))) [])
  | .builtin .max, _, [some (.one (.int k a)), some (.one (.lit _ b))] => some (.put (.one (.int k (max a b))) [])
  | .builtin .max, _, [some (.one (.lit k a)), some (.one (.int _ b))] => some (.put (.one (.int k (max a b))) [])
  | .builtin .max, _, [some (.one (.int k a)), some (.one (.int _ b))] => some (.put (.one (.int k (max a b))) [])
  | .builtin .min, _, [some (.one (.lit k a)), some (.one (.lit _ b))] => some (.put (.one (.lit k (min a b))) [])
  | .builtin .min, _, [some (.one (.int k a)), some (.one (.lit _ b))] => some (.put (.one (.int k (min a b))) [])
  | .builtin .min, _, [some (.one (.lit k a)), some (.one (.int _ b))] => some (.put (.one (.int k (min a b))) [])
  | .builtin .min, _, [some (.one (.int k a)), some (.one (.int _ b))] => some (.put (.one (.int k (min a b))) [])
  | _, _, _ => none
theorem max_if (a b : Int) : (if b > a then b else a) = max a b := by split <;> omega
theorem min_if (a b : Int) : (if b < a then b else a) = min a b := by split <;> omega
theorem effCall_ok {c : Call} {f : Operand → Option SV} {s : SV} {vc : List Prop} (hE : EnvOk P E) (hx : ∀ x ∈ c.args.toList, Kn β m (f x) (ρ x)) (h : effCall E c.callee c.argTypes.toList (c.args.toList.map f) = some (.put s vc)) :
    RunV P ρ (.call c) ty w (s.den β) ∧ s.Ok m := by
  obtain ⟨cl, args, ts⟩ := c
  simp only at h hx
  generalize hts : ts.toList = tl at h
  have hts' : ts = tl.toArray := by rw [← hts, Array.toArray_toList]
  subst hts'
  have two : ∀ {u v : Option SV}, args.toList.map f = [u, v] → ∃ x y, args = #[x, y] ∧ Kn β m u (ρ x) ∧ Kn β m v (ρ y) := by
    intro u v he
    match hal : args.toList, he with
    | [x, y], he =>
      rw [hal] at hx
      simp only [List.map_cons, List.map_nil, List.cons.injEq, and_true] at he
      exact ⟨x, y, by rw [← Array.toArray_toList (xs := args), hal], by rw [← he.1]; exact hx x (by simp), by rw [← he.2]; exact hx y (by simp)⟩
  have one : ∀ {u : Option SV}, args.toList.map f = [u] → ∃ x, args = #[x] ∧ Kn β m u (ρ x) := by
    intro u he
    match hal : args.toList, he with
    | [x], he =>
      rw [hal] at hx
      simp only [List.map_cons, List.map_nil, List.cons.injEq, and_true] at he
      exact ⟨x, by rw [← Array.toArray_toList (xs := args), hal], by rw [← he]; exact hx x (by simp)⟩
  generalize hxs : args.toList.map f = xl at h
  unfold effCall at h
  split at h <;> first | (cases h; done) | skip
  · rename_i t sv n
    have hkd := kindOf_ok (t := t) hE
    obtain ⟨x, rfl, h1⟩ := one hxs
    split at h <;> first | (cases h; done) | skip
    rename_i e e1
    rw [e1] at hkd
    have hkd' : P.underlying t = some (.slice e) := hkd
    simp only [Option.some.injEq] at h
    obtain ⟨rfl, rfl⟩ := put_inj h
    obtain ⟨h2, a, cc, h3, _⟩ := h1 _ rfl
    have h4 : ρ x = .slice a n cc := by rw [h2]; exact h3
    exact ⟨fun d pos aft g => by simp [execOp, resolve, invoke, builtin, h4, Builtin.len_, run_underlying hkd', goInt, SV.den, Ch.den], trivial⟩
  · rename_i t _ _ n _
    have hkd := kindOf_ok (t := t) hE
    obtain ⟨x, rfl, h1⟩ := one hxs
    split at h <;> first | (cases h; done) | skip
    rename_i e e1
    rw [e1] at hkd
    have hkd' : P.underlying t = some (.slice e) := hkd
    simp only [Option.some.injEq] at h
    obtain ⟨rfl, rfl⟩ := put_inj h
    have h4 := (h1 _ rfl).1
    exact ⟨fun d pos aft g => by simp [execOp, resolve, invoke, builtin, h4, Builtin.len_, run_underlying hkd', goInt, SV.den, Ch.den], trivial⟩
  · rename_i t l
    have hkd := kindOf_ok (t := t) hE
    obtain ⟨x, rfl, h1⟩ := one hxs
    split at h <;> first | (cases h; done) | skip
    rename_i e1
    rw [e1] at hkd
    have hkd' : P.underlying t = some .string := hkd
    simp only [Option.some.injEq] at h
    obtain ⟨rfl, rfl⟩ := put_inj h
    have h4 := (h1 _ rfl).1
    have h5 : ρ x = strV l := h4
    have e5 : (⟨l.toArray⟩ : ByteArray).size = l.length := by show l.toArray.size = _; simp
    exact ⟨fun d pos aft g => by simp [execOp, resolve, invoke, builtin, h5, Builtin.len_, run_underlying hkd', goInt, SV.den, Ch.den, e5, -ByteArray.size_data], trivial⟩
  all_goals
    obtain ⟨x, y, rfl, h1, h2⟩ := two hxs
    simp only [Option.some.injEq] at h
    obtain ⟨rfl, rfl⟩ := put_inj h
    have h3 := (h1 _ rfl).1
    have h4 := (h2 _ rfl).1
    simp only [SV.den, Ch.den] at h3 h4
    exact ⟨fun d pos aft g => by simp [execOp, resolve, invoke, builtin, h3, h4, run_max_int2, run_min_int2, max_if, min_if, SV.den, Ch.den], trivial⟩
end
end Go.Proofs.YtpheooheinfbgaaGreatDoor
end
section
set_option linter.unusedVariables false
set_option linter.unusedSimpArgs false
namespace Go.Proofs.YtpheooheinfbgaaGreatDoor
open Go Go.RowKit
def putOnly : Option Eff → Option Eff
  | some (.put s vc) => some (.put s vc)
  | _ => none
def mkOnly : Option Eff → Option Eff
  | some (.mk T l s) => some (.mk T l s)
  | _ => none
def wrOnly : Option Eff → Option Eff
  | some (.wr b l) => some (.wr b l)
  | _ => none
theorem putOnly_eq {x : Option Eff} {e : Eff} (h : putOnly x = some e) : x = some e ∧ ∃ s vc, e = .put s vc := by
  unfold putOnly at h
  split at h
  · exact ⟨h, _, _, (Option.some.inj h).symm⟩
  · cases h
theorem mkOnly_eq {x : Option Eff} {e : Eff} (h : mkOnly x = some e) : x = some e ∧ ∃ T l s, e = .mk T l s := by
  unfold mkOnly at h
  split at h
  · exact ⟨h, _, _, _, (Option.some.inj h).symm⟩
  · cases h
theorem wrOnly_eq {x : Option Eff} {e : Eff} (h : wrOnly x = some e) : x = some e ∧ ∃ b l, e = .wr b l := by
  unfold wrOnly at h
  split at h
  · exact ⟨h, _, _, (Option.some.inj h).symm⟩
  · cases h
noncomputable def effV (E : Env) (fr : List (Nat × SV)) (hp : List HE) : Op → Option Eff
  | .move x => (opd fr x).map fun s => .put s []
  | .assign x => (opd fr x).map fun s => .put s []
  | .pick c x y => effPick (opd fr c) (opd fr x) (opd fr y)
  | .build T ps => effBuild E T (ps.toList.map fun p => (p.1, opd fr p.2))
  | .load T x => effLoad E hp T (opd fr x)
  | .nilCheck x => effNil (opd fr x)
  | .binOp op t x y _ => effBin E op t (opd fr x) (opd fr y)
  | .unOp op _ x => effUn op (opd fr x)
  | .convert s d x => effConv E s d (opd fr x)
  | .makeInterface T x => effIface E T (opd fr x)
  | .makeFunc fn first cap => effFunc fn first (cap.toList.map (opd fr))
  | .slice T x lo hi mx => effWin E T (opd fr x) (lo.map (opd fr)) (hi.map (opd fr)) (mx.map (opd fr))
  | .fieldAddr T x f => effFieldA E T f (opd fr x)
  | .field T x f => effField E T f (opd fr x)
  | .indexAddr T x i => effIndexA E T (opd fr x) (opd fr i)
  | .index T x i => effIndex E T (opd fr x) (opd fr i)
  | .extract x i => effExtract i (opd fr x)
  | .call c => effCall E c.callee c.argTypes.toList (c.args.toList.map (opd fr))
  | _ => none
noncomputable def eff (E : Env) (fr : List (Nat × SV)) (hp : List HE) : Op → Option Eff
  | .alloc T => mkOnly (effAlloc E T hp.length)
  | .box T x => mkOnly (effBox T hp.length (opd fr x))
  | .buildSlice T n ps => mkOnly (effLit E T n hp.length (ps.toList.map fun p => (p.1, opd fr p.2)))
  | .store T x y => wrOnly (effStore E hp T (opd fr x) (opd fr y))
  | o => putOnly (effV E fr hp o)
section
variable {P : Program} {E : Env} {β : Nat → Nat} {w : World} {ty : TypeId} {ρ : Operand → Value} {base : Bs} {fr : List (Nat × SV)} {hp : List HE}
def OpsKn (β : Nat → Nat) (m : Nat) (fr : List (Nat × SV)) (ρ : Operand → Value) (o : Op) : Prop := ∀ x, x ∈ o.operands.toList → Kn β m (opd fr x) (ρ x)
theorem effV_ok {o : Op} {s : SV} {vc : List Prop} {m : Nat} (hle : hp.length ≤ m) (hE : EnvOk P E) (hm : Mem base hp β w) (hk : OpsKn β m fr ρ o) (h : effV E fr hp o = some (.put s vc)) (hv : AllT vc) : RunV P ρ o ty w (s.den β) ∧ s.Ok m := by
  cases o <;> simp only [effV] at h <;> first | (cases h; done) | skip
  case move x =>
    have h1 := hk x (by simp [Op.operands]) _ (mapPut h)
    exact ⟨fun d pos aft g => by simp [execOp, h1.1], h1.2⟩
  case assign x =>
    have h1 := hk x (by simp [Op.operands]) _ (mapPut h)
    exact ⟨fun d pos aft g => by simp [execOp, h1.1], h1.2⟩
  case pick c x y => exact effPick_ok (hk c (by simp [Op.operands])) (hk x (by simp [Op.operands])) (hk y (by simp [Op.operands])) h
  case build T ps => exact effBuild_ok hE (fun p hp => hk p.2 (by simp [Op.operands]; exact ⟨p.1, by simpa using hp⟩)) h
  case load T x => exact ⟨(effLoad_ok hE hm (hk x (by simp [Op.operands])) h).1, (effLoad_ok (P := P) (ty := ty) hE hm (hk x (by simp [Op.operands])) h).2.le hle⟩
  case nilCheck x => exact effNil_ok (hk x (by simp [Op.operands])) h
  case binOp op t x y t' => exact effBin_ok hE (hk x (by simp [Op.operands])) (hk y (by simp [Op.operands])) h hv
  case unOp op t x => exact effUn_ok (hk x (by simp [Op.operands])) h hv
  case convert a b x => exact effConv_ok hE (hk x (by simp [Op.operands])) h hv
  case makeInterface T x => exact effIface_ok hE (hk x (by simp [Op.operands])) h
  case makeFunc fn first cap => exact effFunc_ok (fun x hx => hk x (by simp only [Op.operands, Array.toList_append, List.mem_append]; exact .inr hx)) h
  case slice T x lo hi mx =>
    exact effWin_ok (f := opd fr) hE (hk x (by simp [Op.operands])) (fun o ho => hk o (by subst ho; simp [Op.operands])) (fun o ho => hk o (by subst ho; simp [Op.operands])) (fun o ho => hk o (by subst ho; simp [Op.operands])) h
  case fieldAddr T x f => exact effFieldA_ok hE (hk x (by simp [Op.operands])) h
  case field T x f => exact effField_ok hE (hk x (by simp [Op.operands])) h
  case indexAddr T x i => exact effIndexA_ok hE (hk x (by simp [Op.operands])) (hk i (by simp [Op.operands])) h
  case index T x i => exact effIndex_ok hE (hk x (by simp [Op.operands])) (hk i (by simp [Op.operands])) h
  case extract x i => exact effExtract_ok (hk x (by simp [Op.operands])) h
  case call c => exact effCall_ok (f := opd fr) hE (fun x hx => hk x (by simp only [Op.operands, Call.operands, Array.toList_append, List.mem_append]; exact .inr hx)) h
theorem eff_put {o : Op} {s : SV} {vc : List Prop} (hE : EnvOk P E) (hm : Mem base hp β w) (hk : OpsKn β hp.length fr ρ o) (h : eff E fr hp o = some (.put s vc)) (hv : AllT vc) : RunV P ρ o ty w (s.den β) ∧ s.Ok hp.length := by
  unfold eff at h
  split at h
  · obtain ⟨_, _, _, _, e⟩ := mkOnly_eq h; cases e
  · obtain ⟨_, _, _, _, e⟩ := mkOnly_eq h; cases e
  · obtain ⟨_, _, _, _, e⟩ := mkOnly_eq h; cases e
  · obtain ⟨_, _, _, e⟩ := wrOnly_eq h; cases e
  · exact effV_ok (Nat.le_refl _) hE hm hk (putOnly_eq h).1 hv
theorem eff_mk {o : Op} {T : TypeId} {l : List Ch} {s : SV} (hE : EnvOk P E) (hk : OpsKn β hp.length fr ρ o) (h : eff E fr hp o = some (.mk T l s)) :
    (∀ c ∈ l, c.Ok hp.length) ∧ s.Ok (hp.length + 1) ∧ ∀ β' : Nat → Nat, β' hp.length = w.heap.size → ∀ d pos aft g, (execOp ρ ⟨d, o, ty, pos, aft, g⟩).run P w = .ok (.value (s.den β')) (w.alloc (.cells (cellsL β l).toArray T)) := by
  unfold eff at h
  split at h
  · rename_i T'
    obtain ⟨rfl, rfl, h1, h2⟩ := effAlloc_ok (P := P) (m := hp.length) (β := β) (w := w) (ρ := ρ) (ty := ty) hE (mkOnly_eq h).1
    exact ⟨h1, Nat.lt_succ_self _, fun β' hb d pos aft g => by rw [h2]; simp only [SV.den, Ch.den, hb]⟩
  · rename_i T' x
    obtain ⟨rfl, rfl, h1, h2⟩ := effBox_ok (P := P) (w := w) (ty := ty) (hk x (by simp [Op.operands])) (mkOnly_eq h).1
    exact ⟨h1, Nat.lt_succ_self _, fun β' hb d pos aft g => by rw [h2]; simp only [SV.den, Ch.den, hb]⟩
  · rename_i T' n ps
    obtain ⟨rfl, h1, h2⟩ := effLit_ok (P := P) (w := w) (ty := ty) hE (fun p hp => hk p.2 (by simp [Op.operands]; exact ⟨p.1, by simpa using hp⟩)) (mkOnly_eq h).1
    exact ⟨h1, Nat.lt_succ_self _, fun β' hb d pos aft g => by rw [h2]; simp only [SV.den, Ch.den, hb]⟩
  · obtain ⟨_, _, _, e⟩ := wrOnly_eq h; cases e
  · obtain ⟨_, _, _, e⟩ := putOnly_eq h; cases e
theorem eff_wr {o : Op} {b : Nat} {l' : List Ch} (hE : EnvOk P E) (hm : Mem base hp β w) (hk : OpsKn β hp.length fr ρ o) (h : eff E fr hp o = some (.wr b l')) :
    ∃ T' l w', hp[b]? = some (HE.blk T' l) ∧ (∀ c ∈ l', c.Ok hp.length) ∧ Wrt (β b) w w' ∧ Blk w' (β b) T' (cellsL β l') ∧ ∀ d pos aft g, (execOp ρ ⟨d, o, ty, pos, aft, g⟩).run P w = .ok .skip w' := by
  unfold eff at h
  split at h
  · obtain ⟨_, _, _, _, e⟩ := mkOnly_eq h; cases e
  · obtain ⟨_, _, _, _, e⟩ := mkOnly_eq h; cases e
  · obtain ⟨_, _, _, _, e⟩ := mkOnly_eq h; cases e
  · rename_i T x y
    exact effStore_ok hE hm (hk x (by simp [Op.operands])) (hk y (by simp [Op.operands])) (wrOnly_eq h).1
  · obtain ⟨_, _, _, e⟩ := putOnly_eq h; cases e
end
structure Gh where
  p : (Nat → Prop) → World → Prop
  keep : ∀ {S : Nat → Prop} {w w' : World}, p S w → Keeps S w w' → p S w'
  mono : ∀ {S S' : Nat → Prop} {w : World}, p S w → (∀ k, k < w.heap.size → S k → S' k) → p S' w
abbrev Gh.nil : Gh := ⟨fun _ _ => True, fun _ _ => trivial, fun _ _ => trivial⟩
abbrev Gh.and (a b : Gh) : Gh := ⟨fun S w => a.p S w ∧ b.p S w, fun h k => ⟨a.keep h.1 k, b.keep h.2 k⟩, fun h k => ⟨a.mono h.1 k, b.mono h.2 k⟩⟩
structure St where
  fr : List (Nat × SV)
  hp : List HE
structure Sat (base : Bs) (st : St) (β : Nat → Nat) (ρ : Fr) (w : World) : Prop where
  fr : ∀ d, Kn β st.hp.length (look st.fr d) (ρ d)
  mem : Mem base st.hp β w
theorem Sat.ops {base : Bs} {st : St} {β : Nat → Nat} {ρ : Fr} {w : World} (h : Sat base st β ρ w) (o : Op) : OpsKn β st.hp.length st.fr (ev ρ) o :=
  fun x _ => opd_kn fun t _ => h.fr t
theorem Keeps.behind {S S' : Nat → Prop} {w w1 w2 : World} (h : Keeps S w w1) (k : Keeps S' w1 w2) (hs : ∀ i, i < w.heap.size → S i → S' i) : Keeps S w w2 :=
  ⟨k.os.trans h.os, k.tape.trans h.tape, k.output.trans h.output, Nat.le_trans h.size k.size,
    fun i hi hk => (k.block i (Nat.lt_of_lt_of_le hi h.size) (hs i hi hk)).trans (h.block i hi hk)⟩
theorem AbsE.keep (A : AbsE) {S : Nat → Prop} {w w' : World} (h : A.R w) (hl : ∀ k, A.Q k → k < w.heap.size) (k : Keeps S w w') (hs : ∀ k, A.Q k → S k) : A.R w' :=
  A.frame w w' h fun i hi => k.block i (hl i hi) (hs i hi)
theorem Mem.to {base : Bs} {hp : List HE} {β : Nat → Nat} {w w' : World} (h : Mem base hp β w) (k : Ext w w') : Mem base hp β w' :=
  ⟨fun i T l hi => ⟨(h.blk i T l hi).1.to k, (h.blk i T l hi).2⟩, fun i T s v n cs hi => own_to (h.row i T s v n cs hi) k, fun i A hi => A.keep (h.abs i A hi) (fun k' hk => (h.low i k' ⟨_, hi, hk⟩).2) k fun _ _ => trivial, fun i k' hk => ⟨(h.low i k' hk).1, Nat.lt_of_lt_of_le (h.low i k' hk).2 k.size⟩, h.apart⟩
theorem Mem.grow {K S' : Nat → Prop} {w0 w w' : World} {hp : List HE} {β : Nat → Nat} (h : Mem ⟨w0.heap.size, K⟩ hp β w) (hw : Keeps K w0 w) (k : Keeps S' w w') (b : Nat) (hm : ∀ i, ¬ S' i → mineAt β hp b i) : Keeps K w0 w' :=
  Keeps.behind hw k fun i hi hk => Classical.byContradiction fun hn => by
    rcases (h.low b i (hm i hn)).1 with h6 | h6
    · have h7 : w0.heap.size ≤ i := h6
      omega
    · exact h6 hk
theorem look_cons {i d : Nat} {s : SV} {r : List (Nat × SV)} : look ((i, s) :: r) d = if i = d then some s else look r d := by
  simp only [look]
  by_cases e : i = d
  · subst e; simp
  · have : Nat.beq i d = false := by
      cases hq : Nat.beq i d with
      | false => rfl
      | true => exact absurd (Nat.eq_of_beq_eq_true hq) e
    rw [this, if_neg e]
    rfl
theorem upd_eq {ρ : Fr} {d i : Nat} {v : Value} : upd ρ d v i = if d = i then v else ρ i := by
  by_cases e : d = i
  · subst e; rw [upd_same, if_pos rfl]
  · rw [if_neg e, upd_ne]
    cases hq : Nat.beq i d with
    | false => rfl
    | true => exact absurd (Nat.eq_of_beq_eq_true hq).symm e
theorem Sat.put {base : Bs} {st : St} {β : Nat → Nat} {ρ : Fr} {w : World} {d : Nat} {s : SV} {v : Value} (h : Sat base st β ρ w) (hv : v = s.den β) (ok : s.Ok st.hp.length) : Sat base ⟨(d, s) :: st.fr, st.hp⟩ β (upd ρ d v) w := by
  refine ⟨fun i s' hs => ?_, h.mem⟩
  rw [look_cons] at hs
  rw [upd_eq]
  split at hs
  · rename_i e
    rw [if_pos e]
    simp only [Option.some.injEq] at hs
    subst hs
    exact ⟨hv, ok⟩
  · rename_i e
    rw [if_neg e]
    exact h.fr i s' hs
theorem Sat.to {base : Bs} {st : St} {β : Nat → Nat} {ρ : Fr} {w w' : World} (h : Sat base st β ρ w) (k : Ext w w') : Sat base st β ρ w' := ⟨h.fr, h.mem.to k⟩
def βs (β : Nat → Nat) (n g : Nat) : Nat → Nat := fun i => if i = n then g else β i
theorem βs_lt {β : Nat → Nat} {n g i : Nat} (h : i < n) : βs β n g i = β i := by unfold βs; rw [if_neg (by omega)]
theorem βs_same {β : Nat → Nat} {n g : Nat} : βs β n g n = g := by unfold βs; rw [if_pos rfl]
theorem mineAt_snoc {β : Nat → Nat} {hp : List HE} {T : TypeId} {l : List Ch} {g i k : Nat} : mineAt (βs β hp.length g) (hp ++ [.blk T l]) i k ↔ (i = hp.length ∧ k = g) ∨ (i ≠ hp.length ∧ mineAt β hp i k) := by
  by_cases e : i = hp.length
  · subst e
    rw [mineAt_of (e := .blk T l) (by simp)]
    simp [HE.mine, βs_same]
  · by_cases hl : i < hp.length
    · unfold mineAt
      rw [List.getElem?_append_left hl, βs_lt hl]
      simp [e]
    · have h1 : ¬ mineAt β hp i k := mineAt_none (List.getElem?_eq_none (by omega))
      have h2 : ¬ mineAt (βs β hp.length g) (hp ++ [.blk T l]) i k := mineAt_none (List.getElem?_eq_none (by simp; omega))
      simp [e, h1, h2]
theorem Sat.new {base : Bs} {st : St} {β : Nat → Nat} {ρ : Fr} {w : World} {d : Nat} {T : TypeId} {l : List Ch} {s : SV} (h : Sat base st β ρ w) (hb : base.n ≤ w.heap.size) (hok : ∀ c ∈ l, c.Ok st.hp.length) (ok : s.Ok (st.hp.length + 1)) :
    Sat base ⟨(d, s) :: st.fr, st.hp ++ [.blk T l]⟩ (βs β st.hp.length w.heap.size) (upd ρ d (s.den (βs β st.hp.length w.heap.size))) (w.alloc (.cells (cellsL β l).toArray T)) := by
  have hlen : (st.hp ++ [HE.blk T l]).length = st.hp.length + 1 := by simp
  have hc : ∀ i, i < st.hp.length → β i = βs β st.hp.length w.heap.size i := fun i hi => (βs_lt hi).symm
  have k := ext_alloc w (.cells (cellsL β l).toArray T)
  have h2 := h.to k
  refine ⟨fun i s' hs => ?_, ⟨?_, ?_, ?_, ?_, ?_⟩⟩
  · rw [look_cons] at hs
    rw [upd_eq, hlen]
    split at hs
    · rename_i e
      rw [if_pos e]
      simp only [Option.some.injEq] at hs
      subst hs
      exact ⟨rfl, ok⟩
    · rename_i e
      rw [if_neg e]
      obtain ⟨e1, e2⟩ := h.fr i s' hs
      exact ⟨e1.trans (SV.den_congr hc e2), e2.le (Nat.le_succ _)⟩
  · intro i T' l' hi
    rw [hlen]
    by_cases e : i = st.hp.length
    · subst e
      simp at hi
      obtain ⟨rfl, rfl⟩ := hi
      rw [βs_same]
      refine ⟨?_, fun c hc => (hok c hc).le (Nat.le_succ _)⟩
      rw [← cellsL_congr hc hok]
      exact Blk.new _ _ _
    · have hl : i < st.hp.length := by
        have := (List.getElem?_eq_some_iff.1 hi).1
        simp at this
        omega
      rw [List.getElem?_append_left hl] at hi
      obtain ⟨e1, e2⟩ := h2.mem.blk i T' l' hi
      rw [βs_lt hl, ← cellsL_congr hc e2]
      exact ⟨e1, fun c hc => (e2 c hc).le (Nat.le_succ _)⟩
  · intro i T' s' v n cs hi
    have hl : i < st.hp.length := by
      have h3 := (List.getElem?_eq_some_iff.1 hi).1
      simp at h3
      rcases Nat.lt_or_ge i st.hp.length with h | h
      · exact h
      · obtain rfl : i = st.hp.length := by omega
        simp at hi
    rw [List.getElem?_append_left hl] at hi
    exact h2.mem.row i T' s' v n cs hi
  · intro i A hi
    have hl : i < st.hp.length := by
      have h3 := (List.getElem?_eq_some_iff.1 hi).1
      simp at h3
      rcases Nat.lt_or_ge i st.hp.length with h | h
      · exact h
      · obtain rfl : i = st.hp.length := by omega
        simp at hi
    rw [List.getElem?_append_left hl] at hi
    exact h2.mem.abs i A hi
  · intro i k' hk
    rw [mineAt_snoc] at hk
    rcases hk with ⟨_, rfl⟩ | ⟨_, hk⟩
    · exact ⟨.inl hb, by simp⟩
    · exact h2.mem.low i k' hk
  · intro i j k' hi hj
    rw [mineAt_snoc] at hi hj
    rcases hi with ⟨e1, e2⟩ | ⟨_, hi⟩ <;> rcases hj with ⟨e3, e4⟩ | ⟨_, hj⟩
    · omega
    · have := (h.mem.low j k' hj).2
      omega
    · have := (h.mem.low i k' hi).2
      omega
    · exact h.mem.apart i j k' hi hj
theorem Sof_mk {S0 : Nat → Prop} {hp : List HE} {β : Nat → Nat} {w : World} {T : TypeId} {l : List Ch} : ∀ k, k < w.heap.size → Sof S0 β hp k → Sof S0 (βs β hp.length w.heap.size) (hp ++ [.blk T l]) k := by
  intro k hk ⟨h1, h2⟩
  refine ⟨h1, fun i hi => ?_⟩
  rw [mineAt_snoc] at hi
  rcases hi with ⟨_, hi⟩ | ⟨_, hi⟩
  · omega
  · exact h2 i hi
theorem mineAt_set {β : Nat → Nat} {hp : List HE} {b : Nat} {T T' : TypeId} {l l' : List Ch} (h : hp[b]? = some (.blk T l)) (i k : Nat) : mineAt β (hp.set b (.blk T' l')) i k ↔ mineAt β hp i k := by
  by_cases e : b = i
  · subst e
    have hl := (List.getElem?_eq_some_iff.1 h).1
    rw [mineAt_of h, mineAt_of (List.getElem?_set_self hl)]
    exact Iff.rfl
  · unfold mineAt
    rw [List.getElem?_set_ne e]
theorem Sat.wr {base : Bs} {st : St} {β : Nat → Nat} {ρ : Fr} {w w' : World} {b : Nat} {T : TypeId} {l l' : List Ch} (h : Sat base st β ρ w) (hb : st.hp[b]? = some (.blk T l)) (hok : ∀ c ∈ l', c.Ok st.hp.length) (k : Wrt (β b) w w') (hn : Blk w' (β b) T (cellsL β l')) :
    Sat base ⟨st.fr, st.hp.set b (.blk T l')⟩ β ρ w' := by
  have hlen : (st.hp.set b (.blk T l')).length = st.hp.length := by simp
  have hbl := (List.getElem?_eq_some_iff.1 hb).1
  have hmb : mineAt β st.hp b (β b) := ⟨_, hb, rfl⟩
  refine ⟨fun d => by rw [hlen]; exact h.fr d, ⟨?_, ?_, ?_, ?_, ?_⟩⟩
  · intro i T' l2 hi
    rw [hlen]
    by_cases e : b = i
    · subst e
      rw [List.getElem?_set_self hbl] at hi
      simp only [Option.some.injEq, HE.blk.injEq] at hi
      obtain ⟨rfl, rfl⟩ := hi
      exact ⟨hn, hok⟩
    · rw [List.getElem?_set_ne e] at hi
      obtain ⟨e1, e2⟩ := h.mem.blk i T' l2 hi
      refine ⟨e1.wr k fun e3 => e ?_, e2⟩
      exact h.mem.apart b i (β b) hmb ⟨_, hi, e3.symm⟩
  · intro i T' s v n cs hi
    have e : b ≠ i := by
      intro e
      subst e
      rw [List.getElem?_set_self hbl] at hi
      cases hi
    rw [List.getElem?_set_ne e] at hi
    refine own_keep (h.mem.row i T' s v n cs hi) k fun g hg e3 => e ?_
    exact h.mem.apart b i (β b) hmb ⟨_, hi, by show v.ownBlock = _; rw [hg, e3]⟩
  · intro i A hi
    have e : b ≠ i := by
      intro e
      subst e
      rw [List.getElem?_set_self hbl] at hi
      cases hi
    rw [List.getElem?_set_ne e] at hi
    refine A.keep (h.mem.abs i A hi) (fun k' hk => (h.mem.low i k' ⟨_, hi, hk⟩).2) k fun g hg e3 => e ?_
    exact h.mem.apart b i (β b) hmb ⟨_, hi, by show A.Q _; rw [← e3]; exact hg⟩
  · intro i k' hk
    rw [mineAt_set hb] at hk
    obtain ⟨e1, e2⟩ := h.mem.low i k' hk
    exact ⟨e1, Nat.lt_of_lt_of_le e2 k.size⟩
  · intro i j k' hi hj
    rw [mineAt_set hb] at hi hj
    exact h.mem.apart i j k' hi hj
noncomputable def stepOp (E : Env) (st : St) (o : Oper) : Option (St × List Prop) :=
  match eff E st.fr st.hp o.op, o.dst with
  | some (.put s vc), some d => some (⟨(d, s) :: st.fr, st.hp⟩, vc)
  | some (.mk T l s), some d => some (⟨(d, s) :: st.fr, st.hp ++ [.blk T l]⟩, [])
  | some (.wr b l), none => match nth st.hp b with
    | some (.blk T _) => some (⟨st.fr, setN st.hp b (.blk T l)⟩, [])
    | _ => none
  | _, _ => none
def Onw (S0 K : Nat → Prop) (w0 : World) (β : Nat → Nat) (hp : List HE) (w : World) (β' : Nat → Nat) (hp' : List HE) (w' : World) : Prop :=
  Keeps K w0 w' ∧ ∀ G : Gh, G.p (Sof S0 β hp) w → G.p (Sof S0 β' hp') w'
theorem stepOp_ok {P : Program} {E : Env} {S0 K : Nat → Prop} {w0 w : World} {st st' : St} {β : Nat → Nat} {ρ : Fr} {o : Oper} {vc : List Prop} (hE : EnvOk P E) (h : Sat ⟨w0.heap.size, K⟩ st β ρ w) (hw : Keeps K w0 w)
    (hs : stepOp E st o = some (st', vc)) (hv : AllT vc) : Stp P (ev ρ) o w fun v w' => ∃ β', Sat ⟨w0.heap.size, K⟩ st' β' (updO ρ o.dst v) w' ∧ Onw S0 K w0 β st.hp w β' st'.hp w' := by
  obtain ⟨dst, op, ty, pos, aft, g⟩ := o
  unfold stepOp at hs
  simp only at hs
  split at hs <;> first | (cases hs; done) | skip
  · rename_i s vc' d he
    simp only [Option.some.injEq, Prod.mk.injEq] at hs
    obtain ⟨rfl, rfl⟩ := hs
    obtain ⟨h1, h2⟩ := eff_put (P := P) (ty := ty) hE h.mem (h.ops op) he hv
    unfold Stp
    rw [h1]
    exact ⟨β, h.put rfl h2, hw, fun G hG => hG⟩
  · rename_i T l s d he
    simp only [Option.some.injEq, Prod.mk.injEq] at hs
    obtain ⟨rfl, rfl⟩ := hs
    obtain ⟨h1, h2, h3⟩ := eff_mk (P := P) (w := w) (ty := ty) hE (h.ops op) he
    unfold Stp
    rw [h3 _ βs_same]
    have k := ext_alloc w (.cells (cellsL β l).toArray T)
    exact ⟨_, h.new hw.size h1 h2, hw.trans (.of k), fun G hG => G.keep (G.mono hG Sof_mk) (.of k)⟩
  · rename_i b l he
    split at hs <;> first | (cases hs; done) | skip
    rename_i T l0 hn
    simp only [Option.some.injEq, Prod.mk.injEq] at hs
    obtain ⟨rfl, rfl⟩ := hs
    obtain ⟨T', l', w', h1, h2, h3, h4, h5⟩ := eff_wr (P := P) (ty := ty) hE h.mem (h.ops op) he
    rw [nth_eq] at hn
    rw [hn] at h1
    simp only [Option.some.injEq, HE.blk.injEq] at h1
    obtain ⟨rfl, rfl⟩ := h1
    unfold Stp
    rw [h5]
    have hmb : mineAt β st.hp b (β b) := ⟨_, hn, rfl⟩
    rw [setN_eq]
    refine ⟨β, h.wr hn h2 h3 h4, ?_, fun G hG => ?_⟩
    · exact Keeps.behind hw h3 fun i hi hk e => by
        subst e
        rcases (h.mem.low b _ hmb).1 with h6 | h6
        · have h7 : w0.heap.size ≤ β b := h6
          omega
        · exact h6 hk
    · refine G.mono (G.keep hG (h3.mono fun k hk e => hk.2 b (e ▸ hmb))) fun k _ hk => ⟨hk.1, fun i hi => ?_⟩
      rw [mineAt_set hn] at hi
      exact hk.2 i hi
end Go.Proofs.YtpheooheinfbgaaGreatDoor
end
section
set_option linter.unusedVariables false
set_option linter.unusedSimpArgs false
namespace Go.Proofs.YtpheooheinfbgaaGreatDoor
open Go Go.RowKit
def LH (P : Program) (n : Nat) (c : Code) (Q : Post) (ρ : Fr) (w : World) : Prop :=
  codeOk n c = true → ∀ D act, Mt n D act ρ → ∀ b K cs, ∃ e a' w', lift n D Q e a' w' ∧ Arrives P (lone (b.at act (.code c :: .inLoop c :: K)) cs w) b K cs e a' w'
theorem lh_of {P : Program} {n : Nat} {c : Code} {Q : Post} {ρ : Fr} {w : World} (h : Wp P n c (thenQ (fun ρ w => LH P n c Q ρ w) Q) ρ w) : LH P n c Q ρ w := by
  intro hc D act hm b K cs
  unfold Wp at h
  obtain ⟨e, a₁, w₁, ⟨ρ₁, hm₁, hq⟩, harr⟩ := h hc D act hm b (.inLoop c :: K) cs
  cases e with
  | normal =>
    obtain ⟨e₂, a₂, w₂, hq₂, harr₂⟩ := hq hc D a₁ hm₁ b K cs
    exact ⟨e₂, a₂, w₂, hq₂, .of_steps (Steps.trans harr (.one step_inLoop)) harr₂⟩
  | exit id => exact ⟨_, a₁, w₁, ⟨ρ₁, hm₁, hq⟩, .pass (x := .inLoop c) rfl (fun _ _ => .inl (by simp)) harr⟩
  | goto l => exact ⟨_, a₁, w₁, ⟨ρ₁, hm₁, hq⟩, .pass (x := .inLoop c) rfl (fun _ _ => .inl (by simp)) harr⟩
  | ret => exact ⟨_, a₁, w₁, ⟨ρ₁, hm₁, hq⟩, .pass (x := .inLoop c) rfl (fun _ _ => .inl (by simp)) harr⟩
  | panic ch => exact ⟨_, a₁, w₁, ⟨ρ₁, hm₁, hq⟩, .pass (x := .inLoop c) rfl (fun _ _ => .inl (by simp)) harr⟩
  | outgrown => exact ⟨_, a₁, w₁, ⟨ρ₁, hm₁, hq⟩, .pass (x := .inLoop c) rfl (fun _ _ => .inl (by simp)) harr⟩
theorem wp_of_lh {P : Program} {n : Nat} {c : Code} {Q : Post} {ρ : Fr} {w : World} (h : LH P n c Q ρ w) : Wp P n (.loop c) Q ρ w := by
  unfold Wp
  intro hc D act hm b K cs
  obtain ⟨e, a', w', hq, harr⟩ := h (by simpa only [codeOk] using hc) D act hm b K cs
  exact ⟨e, a', w', hq, .of_steps (.one step_loop) harr⟩
inductive Cur where
  | code (c : Code)
  | ops (all rest : List Oper)
  | ex (e : Exit)
inductive Kt where
  | code (c : Code)
  | blk (i : Nat)
  | lp (c : Code)
structure Out where
  cur : Cur
  k : List Kt
  st : St
  vc : List Prop
def kQ (P : Program) (n : Nat) (Q : Post) : List Kt → Post
  | [] => Q
  | .code c :: k => thenQ (fun ρ w => Wp P n c (kQ P n Q k) ρ w) (kQ P n Q k)
  | .blk i :: k => blockQ i (kQ P n Q k)
  | .lp c :: k => thenQ (fun ρ w => LH P n c (kQ P n Q k) ρ w) (kQ P n Q k)
def curX (P : Program) (n : Nat) (Q : Post) : Cur → Fr → World → Prop
  | .code c => Wp P n c Q
  | .ops all rest => WpR P n all Q rest
  | .ex e => Q e
noncomputable def opStep (E : Env) (all : List Oper) (o1 : Oper) (r : List Oper) (o : Out) : Option Out :=
  match stepOp E o.st o1 with
  | some (st', vc) => some ⟨.ops all r, o.k, st', vc ++ o.vc⟩
  | none => none
def skipSt (st : St) (d : Option Tmp) : St := match d with | some d => ⟨(d, .und) :: st.fr, st.hp⟩ | none => st
noncomputable def nextO (E : Env) (un : Bool) (o : Out) : Option Out :=
  match o.cur with
  | .code c => match c with
    | .skip => some ⟨.ex .normal, o.k, o.st, o.vc⟩
    | .label _ => some ⟨.ex .normal, o.k, o.st, o.vc⟩
    | .seq a b => some ⟨.code a, .code b :: o.k, o.st, o.vc⟩
    | .block i c => some ⟨.code c, .blk i :: o.k, o.st, o.vc⟩
    | .exit i => some ⟨.ex (.exit i), o.k, o.st, o.vc⟩
    | .ret => some ⟨.ex .ret, o.k, o.st, o.vc⟩
    | .region _ ops d => bif d then none else some ⟨.ops ops.toList ops.toList, o.k, o.st, o.vc⟩
    | .cond x a b => match opd o.st.fr x with
      | some (.one (.bb true)) => some ⟨.code a, o.k, o.st, o.vc⟩
      | some (.one (.bb false)) => some ⟨.code b, o.k, o.st, o.vc⟩
      | _ => none
    | .loop c => bif un then some ⟨.code c, .lp c :: o.k, o.st, o.vc⟩ else none
    | _ => none
  | .ops all [] => some ⟨.ex .normal, o.k, o.st, o.vc⟩
  | .ops all (o1 :: r) => match o1.guard with
    | none => opStep E all o1 r o
    | some (j, want) => match dstAt all j with
      | none => none
      | some d => match look o.st.fr d with
        | some (.one (.bb x)) => bif x == want then some ⟨.ops all (⟨o1.dst, o1.op, o1.type, o1.pos, o1.after, none⟩ :: r), o.k, o.st, o.vc⟩ else some ⟨.ops all r, o.k, skipSt o.st o1.dst, o.vc⟩
        | some .und => some ⟨.ops all r, o.k, skipSt o.st o1.dst, o.vc⟩
        | _ => none
  | .ex e => match e, o.k with
    | .normal, .code c :: k => some ⟨.code c, k, o.st, o.vc⟩
    | .normal, .blk i :: k => some ⟨.ex .normal, k, o.st, o.vc⟩
    | .normal, .lp c :: k => some ⟨.code c, .lp c :: k, o.st, o.vc⟩
    | .exit i, .code _ :: k => some ⟨.ex (.exit i), k, o.st, o.vc⟩
    | .exit i, .lp _ :: k => some ⟨.ex (.exit i), k, o.st, o.vc⟩
    | .exit i, .blk j :: k => bif Nat.beq i j then some ⟨.ex .normal, k, o.st, o.vc⟩ else some ⟨.ex (.exit i), k, o.st, o.vc⟩
    | .ret, _ :: k => some ⟨.ex .ret, k, o.st, o.vc⟩
    | _, _ => none
noncomputable def exec (E : Env) (un : Bool) : Nat → Out → Out
  | 0, o => o
  | n + 1, o => match nextO E un o with
    | some o' => exec E un n o'
    | none => o
structure Cx where
  P : Program
  n : Nat
  E : Env
  w0 : World
  S0 : Nat → Prop
  K : Nat → Prop
  Q : Post
abbrev Cx.bs (c : Cx) : Bs := ⟨c.w0.heap.size, c.K⟩
structure Cx.Ok (c : Cx) : Prop where
  env : EnvOk c.P c.E
  up : Up c.S0 c.w0
  lent : ∀ k, ¬ c.K k → c.S0 k
theorem noLent {S : Nat → Prop} : ∀ k, ¬ All k → S k := fun _ h => absurd trivial h
theorem Sat.up0 {c : Cx} {st : St} {β : Nat → Nat} {ρ : Fr} {w : World} (h : Sat c.bs st β ρ w) (hc : c.Ok) (b k : Nat) (hm : mineAt β st.hp b k) : c.S0 k := by
  rcases (h.mem.low b k hm).1 with h1 | h1
  · exact hc.up k h1
  · exact hc.lent k h1
def RunP (c : Cx) (st : St) (G : Gh) (X : Fr → World → Prop) : Prop := ∀ β ρ w, Sat c.bs st β ρ w → Keeps c.K c.w0 w → G.p (Sof c.S0 β st.hp) w → X ρ w
structure Run (c : Cx) (o : Out) (G : Gh) : Prop where
  run : RunP c o.st G (curX c.P c.n (kQ c.P c.n c.Q o.k) o.cur)
structure VcOk (l : List Prop) : Prop where
  all : AllT l
section
variable {c : Cx} {o o' : Out} {G : Gh} {un : Bool}
theorem skip_sat {base : Bs} {st : St} {β : Nat → Nat} {ρ : Fr} {w : World} (h : Sat base st β ρ w) (d : Option Tmp) : Sat base (skipSt st d) β (updO ρ d undef) w := by
  cases d with
  | none => exact h
  | some d => exact h.put rfl trivial
theorem skip_hp {st : St} {d : Option Tmp} : (skipSt st d).hp = st.hp := by cases d <;> rfl
theorem opStep_ok {all : List Oper} {o1 : Oper} {r : List Oper} (hc : c.Ok) (hg : o1.guard = none) (hcur : o.cur = .ops all (o1 :: r)) (h : opStep c.E all o1 r o = some o') (hv : AllT o'.vc) (hr : Run c o' G) : Run c o G := by
  unfold opStep at h
  cases hs : stepOp c.E o.st o1 with
  | none => rw [hs] at h; cases h
  | some x =>
    obtain ⟨st', vc⟩ := x
    rw [hs] at h
    simp only [Option.some.injEq] at h
    subst h
    refine ⟨fun β ρ w hS hw hG => ?_⟩
    rw [hcur]
    have h1 := stepOp_ok (S0 := c.S0) (K := c.K) hc.env hS hw hs (allT_append.1 hv).1
    refine r_step hg (h1.mono fun v w' ⟨β', hS', hw', hG'⟩ => ?_)
    exact hr.run β' _ w' hS' hw' (hG' G hG)
theorem bif_some {b : Bool} {x y z : Out} (h : (bif b then some x else some y) = some z) : (b = true ∧ x = z) ∨ (b = false ∧ y = z) := by
  cases b
  · exact .inr ⟨rfl, Option.some.inj h⟩
  · exact .inl ⟨rfl, Option.some.inj h⟩
theorem nextO_vc (h : nextO c.E un o = some o') : AllT o'.vc → AllT o.vc := by
  intro hv
  unfold nextO at h
  split at h
  · split at h <;> first | (simp only [Option.some.injEq] at h; subst h; exact hv) | (cases h; done) | skip
    · rename_i d _
      cases d <;> simp only [cond_true, cond_false, Option.some.injEq] at h
      · subst h; exact hv
      · cases h
    · split at h <;> first | (simp only [Option.some.injEq] at h; subst h; exact hv) | (cases h; done)
    · cases un <;> simp only [cond_true, cond_false, Option.some.injEq] at h
      · cases h
      · subst h; exact hv
  · simp only [Option.some.injEq] at h; subst h; exact hv
  · split at h
    · unfold opStep at h
      split at h
      · simp only [Option.some.injEq] at h
        subst h
        exact (allT_append.1 hv).2
      · cases h
    · split at h
      · cases h
      · split at h <;> first | (simp only [Option.some.injEq] at h; subst h; exact hv) | (cases h; done) | skip
        rcases bif_some h with ⟨_, rfl⟩ | ⟨_, rfl⟩ <;> exact hv
  · split at h <;> first | (simp only [Option.some.injEq] at h; subst h; exact hv) | (cases h; done) | skip
    rcases bif_some h with ⟨_, rfl⟩ | ⟨_, rfl⟩ <;> exact hv
theorem guard_run {all r : List Oper} {o1 : Oper} {k : List Kt} {st : St} {vc : List Prop} {j d : Nat} {want x : Bool} (hg : o1.guard = some (j, want)) (hd : dstAt all j = some d) (hx : look st.fr d = some (.one (.bb x))) (hb : (x == want) = true)
    (hr : Run c ⟨.ops all (⟨o1.dst, o1.op, o1.type, o1.pos, o1.after, none⟩ :: r), k, st, vc⟩ G) : Run c ⟨.ops all (o1 :: r), k, st, vc⟩ G := by
  obtain ⟨dst, op, ty, pos, aft, g⟩ := o1
  simp only at hg
  subst hg
  refine ⟨fun β ρ w hS hw hG => ?_⟩
  refine r_guard_run hd ?_ (hr.run β ρ w hS hw hG)
  rw [((hS.fr d) _ hx).1, ← eq_of_beq hb]
  rfl
theorem guard_skip {all r : List Oper} {o1 : Oper} {k : List Kt} {st : St} {vc : List Prop} {j d : Nat} {want x : Bool} (hg : o1.guard = some (j, want)) (hd : dstAt all j = some d) (hx : look st.fr d = some (.one (.bb x))) (hb : (x == want) = false)
    (hr : Run c ⟨.ops all r, k, skipSt st o1.dst, vc⟩ G) : Run c ⟨.ops all (o1 :: r), k, st, vc⟩ G := by
  obtain ⟨dst, op, ty, pos, aft, g⟩ := o1
  simp only at hg
  subst hg
  refine ⟨fun β ρ w hS hw hG => ?_⟩
  refine r_guard_skip hd ((hS.fr d) _ hx).1 hb ?_
  exact hr.run β _ w (skip_sat hS dst) hw (by rw [skip_hp]; exact hG)
theorem guard_und {all r : List Oper} {o1 : Oper} {k : List Kt} {st : St} {vc : List Prop} {j d : Nat} {want : Bool} (hg : o1.guard = some (j, want)) (hd : dstAt all j = some d) (hx : look st.fr d = some .und)
    (hr : Run c ⟨.ops all r, k, skipSt st o1.dst, vc⟩ G) : Run c ⟨.ops all (o1 :: r), k, st, vc⟩ G := by
  obtain ⟨dst, op, ty, pos, aft, g⟩ := o1
  simp only at hg
  subst hg
  refine ⟨fun β ρ w hS hw hG => ?_⟩
  refine r_guard_undef hd ((hS.fr d) _ hx).1 ?_
  exact hr.run β _ w (skip_sat hS dst) hw (by rw [skip_hp]; exact hG)
theorem nextO_ok (hc : c.Ok) (h : nextO c.E un o = some o') (hv : AllT o'.vc) (hr : Run c o' G) : Run c o G := by
  obtain ⟨cur, k, st, vc⟩ := o
  unfold nextO at h
  simp only at h
  split at h
  · split at h <;> first | (cases h; done) | skip
    · simp only [Option.some.injEq] at h; subst h
      exact ⟨fun β ρ w hS hw hG => wp_skip (hr.run β ρ w hS hw hG)⟩
    · simp only [Option.some.injEq] at h; subst h
      exact ⟨fun β ρ w hS hw hG => wp_label (hr.run β ρ w hS hw hG)⟩
    · simp only [Option.some.injEq] at h; subst h
      exact ⟨fun β ρ w hS hw hG => wp_seq (hr.run β ρ w hS hw hG)⟩
    · simp only [Option.some.injEq] at h; subst h
      exact ⟨fun β ρ w hS hw hG => wp_block (hr.run β ρ w hS hw hG)⟩
    · simp only [Option.some.injEq] at h; subst h
      exact ⟨fun β ρ w hS hw hG => wp_exit (hr.run β ρ w hS hw hG)⟩
    · simp only [Option.some.injEq] at h; subst h
      exact ⟨fun β ρ w hS hw hG => wp_ret (hr.run β ρ w hS hw hG)⟩
    · rename_i id ops d
      cases d with
      | true => cases h
      | false =>
        simp only [cond_false, Option.some.injEq] at h
        subst h
        refine ⟨fun β ρ w hS hw hG => ?_⟩
        have h1 := wp_region (id := id) (hr.run β ρ w hS hw hG)
        rwa [Array.toArray_toList] at h1
    · split at h <;> first | (cases h; done) | skip
      · rename_i e
        simp only [Option.some.injEq] at h; subst h
        exact ⟨fun β ρ w hS hw hG => wp_cond_true ((opd_kn (fun t _ => hS.fr t)) _ e).1 (hr.run β ρ w hS hw hG)⟩
      · rename_i e
        simp only [Option.some.injEq] at h; subst h
        exact ⟨fun β ρ w hS hw hG => wp_cond_false ((opd_kn (fun t _ => hS.fr t)) _ e).1 (hr.run β ρ w hS hw hG)⟩
    · cases un with
      | false => cases h
      | true =>
        simp only [cond_true, Option.some.injEq] at h
        subst h
        exact ⟨fun β ρ w hS hw hG => wp_of_lh (lh_of (hr.run β ρ w hS hw hG))⟩
  · simp only [Option.some.injEq] at h; subst h
    exact ⟨fun β ρ w hS hw hG => r_nil (hr.run β ρ w hS hw hG)⟩
  · split at h
    · rename_i hg
      exact opStep_ok hc hg rfl h hv hr
    · rename_i j want hg
      split at h
      · cases h
      · rename_i d hd
        split at h <;> first | (cases h; done) | skip
        · rename_i x hx
          rcases bif_some h with ⟨hb, rfl⟩ | ⟨hb, rfl⟩
          · exact guard_run hg hd hx hb hr
          · exact guard_skip hg hd hx hb hr
        · rename_i hx
          simp only [Option.some.injEq] at h; subst h
          exact guard_und hg hd hx hr
  · split at h <;> first | (cases h; done) | skip
    · simp only [Option.some.injEq] at h; subst h
      exact ⟨fun β ρ w hS hw hG => hr.run β ρ w hS hw hG⟩
    · simp only [Option.some.injEq] at h; subst h
      exact ⟨fun β ρ w hS hw hG => hr.run β ρ w hS hw hG⟩
    · simp only [Option.some.injEq] at h; subst h
      exact ⟨fun β ρ w hS hw hG => lh_of (hr.run β ρ w hS hw hG)⟩
    · simp only [Option.some.injEq] at h; subst h
      exact ⟨fun β ρ w hS hw hG => hr.run β ρ w hS hw hG⟩
    · simp only [Option.some.injEq] at h; subst h
      exact ⟨fun β ρ w hS hw hG => hr.run β ρ w hS hw hG⟩
    · rcases bif_some h with ⟨hb, rfl⟩ | ⟨hb, rfl⟩
      · exact ⟨fun β ρ w hS hw hG => q_block_hit hb (hr.run β ρ w hS hw hG)⟩
      · exact ⟨fun β ρ w hS hw hG => q_block_miss hb (hr.run β ρ w hS hw hG)⟩
    · rename_i x k
      simp only [Option.some.injEq] at h; subst h
      cases x with
      | code c => exact ⟨fun β ρ w hS hw hG => hr.run β ρ w hS hw hG⟩
      | blk i => exact ⟨fun β ρ w hS hw hG => hr.run β ρ w hS hw hG⟩
      | lp c => exact ⟨fun β ρ w hS hw hG => hr.run β ρ w hS hw hG⟩
theorem exec_vc : ∀ {N : Nat} {o : Out}, AllT (exec c.E un N o).vc → AllT o.vc := by
  intro N
  induction N with
  | zero => intro o h; exact h
  | succ N ih =>
    intro o h
    simp only [exec] at h
    cases hn : nextO c.E un o with
    | none => rw [hn] at h; exact h
    | some o' => rw [hn] at h; exact nextO_vc hn (ih h)
theorem exec_ok (hc : c.Ok) : ∀ {N : Nat} {o : Out}, AllT (exec c.E un N o).vc → Run c (exec c.E un N o) G → Run c o G := by
  intro N
  induction N with
  | zero => intro o _ h; exact h
  | succ N ih =>
    intro o hv h
    simp only [exec] at h hv
    cases hn : nextO c.E un o with
    | none => rw [hn] at h; exact h
    | some o' =>
      rw [hn] at h hv
      exact nextO_ok hc hn (exec_vc hv) (ih hv h)
end
end Go.Proofs.YtpheooheinfbgaaGreatDoor
end
