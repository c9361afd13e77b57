/- Calculations that may grow too large: what they return. -/
import Derived.Test.YtpmnjjmngogkkaaGreatDoorKept
set_option linter.unusedVariables false
set_option linter.unusedSimpArgs false
namespace Go.Proofs.YtpmnjjmngogkkaaGreatDoor
open Go Go.RowKit

theorem GivesD.mono {P : Program} {f : FuncId} {args : List Value} {u : FrameMode} {w : World} {Φ Φ' : FrameMode → World → Prop} (h : GivesD P f args u w Φ) (k : ∀ u' w', Φ u' w' → Φ' u' w') : GivesD P f args u w Φ' :=
  CallsD.mono h fun e u' w' ⟨he, hp⟩ => ⟨he, k _ _ hp⟩
/-- v and e are q, or 0 and the error. -/
def Tried (S : Nat → Prop) (w : World) (v : Value) (q : Rat) : Prop :=
  ∃ r e, v = .tuple #[r, .int .i64 e] ∧ (Fits q ∧ e = 0 ∧ RatV S w r q ∨ ¬ Fits q ∧ e = 11 ∧ RatV S w r 0)
theorem zero_rat {S : Nat → Prop} {w : World} : RatV S w (.agg #[.bool false, .slice none 0 0, .slice none 0 0]) 0 := ⟨_, _, by rw [tst_false (by decide)], .nil, .nil⟩
theorem rattempt_c {S : Nat → Prop} {w : World} {v : Value} {q : Rat} (hS : Up S w) (h : RatV S w v q) :
    Gives Tryz.prog 104 [.func (.func 106) #[v] #[]] w fun v' w' => Ext w w' ∧ Tried S w' v' q := by
  refine gives_of_defer Tryz.func104 rfl rfl rfl ?_
  refine wpD_seq ?_
  repeat (first | refine wp_region ?_)
  refine r_alloc (cs := [.bool false, .slice none 0 0, .slice none 0 0]) rfl ?_
  intro w1 g1 k1 hg1 hgs1
  skip
  refine r_alloc (cs := [.int .i64 0]) rfl ?_
  intro w2 g2 k2 hg2 hgs2
  have hgl := hg1.lt
  replace hg1 := hg1.to k2
  have k := k1.trans k2
  have hk1 := k1.size
  repeat (first | refine r_nil ?_ | refine q_then ?_)
  refine wpD_seq_defer ?_
  refine wpD_end ?_ (fun e a ρ w hm hq => defQ_end hm hq)
  repeat (first | refine wp_seq_region ?_ | refine wp_region ?_ | refine r_move (by conv => (lhs; whnf)) ?_)
  refine r_callvE (first := [v]) (cap := []) rfl (rkept_c (hS.to k) (h.to k)) rfl ?_ ?_
  · rintro v3 w3 ⟨rfl, k3, hf⟩
    have h3 := h.to (k.trans k3)
    obtain ⟨m, b, hv, hm, hb⟩ := h3
    skip
    refine r_store3 rfl hv (hg1.to k3) rfl rfl hm.one hb.one ?_
    intro w4 k4 hg4
    have hg24 := (hg2.to k3).wr k4 (by omega)
    refine r_store (u := .int .i64 0) rfl rfl hg24 (show 0 < 1 by decide) rfl ?_
    intro w5 k5 hg5
    have hg45 := hg4.wr k5 (by omega)
    repeat (first | refine r_nil ?_ | refine q_then ?_ | refine wp_ret ?_)
    refine rcatch_idle.mono ?_
    rintro u' w' ⟨rfl, rfl⟩
    refine ⟨rfl, [.agg #[.bool (tst (q.num < 0)), m, b], .int .i64 0], ⟨_, _, resV_agg (by conv => (lhs; whnf)) hg45 rfl, ⟨_, _, resV_one (by conv => (lhs; whnf)) hg5, rfl, rfl⟩, rfl⟩, ?_⟩
    exact ⟨((Keeps.past (k.trans k3) k4 (by omega)).past k5 (by omega)), _, _, rfl, .inl ⟨hf, rfl, m, b, rfl, (hm.wrT k4 (hg1.to k3) (by decide)).wrT k5 hg24 (by decide), (hb.wrT k4 (hg1.to k3) (by decide)).wrT k5 hg24 (by decide)⟩⟩
  · rintro ch w3 ⟨rfl, k3, hf⟩
    refine q_then_panic ?_
    refine (rcatch_big (hg1.to k3) rfl (hg2.to k3)).mono ?_
    rintro u' w' ⟨hu, k4, h1, h2⟩
    refine ⟨hu, [.agg #[.bool false, .slice none 0 0, .slice none 0 0], .int .i64 11], ⟨_, _, resV_agg (by conv => (lhs; whnf)) h1 rfl, ⟨_, _, resV_one (by conv => (lhs; whnf)) h2, rfl, rfl⟩, rfl⟩, ?_⟩
    exact ⟨Keeps.later (k.trans k3) k4 (fun i hi _ => ⟨by omega, by omega⟩), _, _, rfl, .inr ⟨hf, rfl, zero_rat⟩⟩

def ITried (S : Nat → Prop) (w : World) (v : Value) (z : Int) : Prop :=
  ∃ r e, v = .tuple #[r, .int .i64 e] ∧ (z.natAbs < Big ∧ e = 0 ∧ IntV S 127 .u32 w r z ∨ ¬ z.natAbs < Big ∧ e = 11 ∧ IntV S 127 .u32 w r 0)
theorem zero_int {S : Nat → Prop} {w : World} : IntV S 127 .u32 w (.agg #[.bool false, .slice none 0 0]) 0 := ⟨_, by rw [tst_false (by decide)], .nil⟩
theorem iattempt_c {S : Nat → Prop} {w : World} {v : Value} {q : Int} (hS : Up S w) (h : IntV S 127 .u32 w v q) :
    Gives Tryz.prog 89 [.func (.func 91) #[v] #[]] w fun v' w' => Ext w w' ∧ ITried S w' v' q := by
  refine gives_of_defer Tryz.func89 rfl rfl rfl ?_
  refine wpD_seq ?_
  repeat (first | refine wp_region ?_)
  refine r_alloc (cs := [.bool false, .slice none 0 0]) rfl ?_
  intro w1 g1 k1 hg1 hgs1
  skip
  refine r_alloc (cs := [.int .i64 0]) rfl ?_
  intro w2 g2 k2 hg2 hgs2
  have hgl := hg1.lt
  replace hg1 := hg1.to k2
  have k := k1.trans k2
  have hk1 := k1.size
  repeat (first | refine r_nil ?_ | refine q_then ?_)
  refine wpD_seq_defer ?_
  refine wpD_end ?_ (fun e a ρ w hm hq => defQ_end hm hq)
  repeat (first | refine wp_seq_region ?_ | refine wp_region ?_ | refine r_move (by conv => (lhs; whnf)) ?_)
  refine r_callvE (first := [v]) (cap := []) rfl (ikept_c (hS.to k) (h.to k)) rfl ?_ ?_
  · rintro v3 w3 ⟨rfl, k3, hf⟩
    have h3 := h.to (k.trans k3)
    obtain ⟨m, hv, hm⟩ := h3
    skip
    refine r_store2 rfl hv (hg1.to k3) rfl hm.one ?_
    intro w4 k4 hg4
    have hg24 := (hg2.to k3).wr k4 (by omega)
    refine r_store (u := .int .i64 0) rfl rfl hg24 (show 0 < 1 by decide) rfl ?_
    intro w5 k5 hg5
    have hg45 := hg4.wr k5 (by omega)
    repeat (first | refine r_nil ?_ | refine q_then ?_ | refine wp_ret ?_)
    refine icatch_idle.mono ?_
    rintro u' w' ⟨rfl, rfl⟩
    refine ⟨rfl, [.agg #[.bool (tst (q < 0)), m], .int .i64 0], ⟨_, _, resV_agg (by conv => (lhs; whnf)) hg45 rfl, ⟨_, _, resV_one (by conv => (lhs; whnf)) hg5, rfl, rfl⟩, rfl⟩, ?_⟩
    exact ⟨((Keeps.past (k.trans k3) k4 (by omega)).past k5 (by omega)), _, _, rfl, .inl ⟨hf, rfl, m, rfl, (hm.wrT k4 (hg1.to k3) (by decide)).wrT k5 hg24 (by decide)⟩⟩
  · rintro ch w3 ⟨rfl, k3, hf⟩
    refine q_then_panic ?_
    refine (icatch_big (hg1.to k3) rfl (hg2.to k3)).mono ?_
    rintro u' w' ⟨hu, k4, h1, h2⟩
    refine ⟨hu, [.agg #[.bool false, .slice none 0 0], .int .i64 11], ⟨_, _, resV_agg (by conv => (lhs; whnf)) h1 rfl, ⟨_, _, resV_one (by conv => (lhs; whnf)) h2, rfl, rfl⟩, rfl⟩, ?_⟩
    exact ⟨Keeps.later (k.trans k3) k4 (fun i hi _ => ⟨by omega, by omega⟩), _, _, rfl, .inr ⟨hf, rfl, zero_int⟩⟩

theorem radd_c {S : Nat → Prop} {w : World} {va vb : Value} {a b : Rat} (hS : Up S w) (ha : RatV S w va a) (hb : RatV S w vb b) (hla : rl a 400000000000) (hlb : rl b 400000000000) :
    Gives Tryz.prog 39 [va, vb] w fun v' w' => Ext w w' ∧ Tried S w' v' (a + b) := by
  have ha0 := ha
  have hb0 := hb
  obtain ⟨ma, ba, rfl, hma, hba⟩ := ha
  obtain ⟨mb, bb, rfl, hmb, hbb⟩ := hb
  refine gives_of Tryz.func39 rfl rfl rfl ?_
  repeat (first | refine wp_seq_region ?_ | refine wp_region ?_)
  refine r_box (cs := [.bool (tst (a.num < 0)), ma, ba]) (by conv => (lhs; whnf)) rfl ?_
  intro w1 ga k1 hga hgsa
  skip
  refine r_box (cs := [.bool (tst (b.num < 0)), mb, bb]) (by conv => (lhs; whnf)) rfl ?_
  intro w2 gb k2 hgb hgsb
  skip
  refine r_alloc (cs := [.bool false, .slice none 0 0, .slice none 0 0]) rfl ?_
  intro w3 g k3 hg hgs
  replace hga := hga.to (k2.trans k3)
  replace hgb := hgb.to k3
  have k := (k1.trans k2).trans k3
  have hs := (k1.trans k2).size
  replace ha0 := ha0.to k
  replace hb0 := hb0.to k
  replace hma := hma.to k
  replace hmb := hmb.to k
  replace hba := hba.to k
  replace hbb := hbb.to k
  replace hS := hS.to k
  clear k1 k2 k3
  repeat (first | refine wp_seq_region ?_ | refine wp_region ?_ | refine r_assign (by conv => (lhs; whnf)) ?_ | refine r_nil ?_)
  repeat (first | refine r_load_all rfl hga rfl ?_ | refine r_load_all rfl hgb rfl ?_)
  refine r_call (rplus_c hS ha0 hb0 hla hlb) rfl ?_
  rintro v4 w4 ⟨k4, h4⟩
  repeat (first | refine r_func ?_)
  refine r_call (rattempt_c (hS.to k4) h4) rfl ?_
  rintro v5 w5 ⟨k5, r, e, rfl, hor⟩
  repeat (first | refine r_extract rfl rfl ?_)
  have k' := (k.trans k4).trans k5
  replace hg := (hg.to k4).to k5
  rcases hor with ⟨hf, rfl, m, b, rfl, hm, hb⟩ | ⟨hf, rfl, m, b, rfl, hm, hb⟩
  · refine r_store3 rfl rfl hg rfl rfl hm.one hb.one ?_
    intro w6 k6 hg6
    repeat (first | refine r_assign (by conv => (lhs; whnf)) ?_ | refine r_nil ?_ | refine q_then ?_ | refine wp_ret ?_)
    exact end2 rfl (resV_agg (by conv => (lhs; whnf)) hg6 rfl) (resV_tmp (by conv => (lhs; whnf))) ⟨Keeps.past k' k6 (by omega), _, _, rfl, .inl ⟨hf, rfl, m, b, rfl, hm.wrT k6 hg (by decide), hb.wrT k6 hg (by decide)⟩⟩
  · refine r_store3 rfl rfl hg rfl rfl hm.one hb.one ?_
    intro w6 k6 hg6
    repeat (first | refine r_assign (by conv => (lhs; whnf)) ?_ | refine r_nil ?_ | refine q_then ?_ | refine wp_ret ?_)
    exact end2 rfl (resV_agg (by conv => (lhs; whnf)) hg6 rfl) (resV_tmp (by conv => (lhs; whnf))) ⟨Keeps.past k' k6 (by omega), _, _, rfl, .inr ⟨hf, rfl, m, b, rfl, hm.wrT k6 hg (by decide), hb.wrT k6 hg (by decide)⟩⟩

theorem rsub_c {S : Nat → Prop} {w : World} {va vb : Value} {a b : Rat} (hS : Up S w) (ha : RatV S w va a) (hb : RatV S w vb b) (hla : rl a 400000000000) (hlb : rl b 400000000000) :
    Gives Tryz.prog 40 [va, vb] w fun v' w' => Ext w w' ∧ Tried S w' v' (a - b) := by
  have ha0 := ha
  have hb0 := hb
  obtain ⟨ma, ba, rfl, hma, hba⟩ := ha
  obtain ⟨mb, bb, rfl, hmb, hbb⟩ := hb
  refine gives_of Tryz.func40 rfl rfl rfl ?_
  repeat (first | refine wp_seq_region ?_ | refine wp_region ?_)
  refine r_box (cs := [.bool (tst (a.num < 0)), ma, ba]) (by conv => (lhs; whnf)) rfl ?_
  intro w1 ga k1 hga hgsa
  skip
  refine r_box (cs := [.bool (tst (b.num < 0)), mb, bb]) (by conv => (lhs; whnf)) rfl ?_
  intro w2 gb k2 hgb hgsb
  skip
  refine r_alloc (cs := [.bool false, .slice none 0 0, .slice none 0 0]) rfl ?_
  intro w3 g k3 hg hgs
  replace hga := hga.to (k2.trans k3)
  replace hgb := hgb.to k3
  have k := (k1.trans k2).trans k3
  have hs := (k1.trans k2).size
  replace ha0 := ha0.to k
  replace hb0 := hb0.to k
  replace hma := hma.to k
  replace hmb := hmb.to k
  replace hba := hba.to k
  replace hbb := hbb.to k
  replace hS := hS.to k
  clear k1 k2 k3
  repeat (first | refine wp_seq_region ?_ | refine wp_region ?_ | refine r_assign (by conv => (lhs; whnf)) ?_ | refine r_nil ?_)
  repeat (first | refine r_load_all rfl hga rfl ?_ | refine r_load_all rfl hgb rfl ?_)
  refine r_call (rminus_c hS ha0 hb0 hla hlb) rfl ?_
  rintro v4 w4 ⟨k4, h4⟩
  repeat (first | refine r_func ?_)
  refine r_call (rattempt_c (hS.to k4) h4) rfl ?_
  rintro v5 w5 ⟨k5, r, e, rfl, hor⟩
  repeat (first | refine r_extract rfl rfl ?_)
  have k' := (k.trans k4).trans k5
  replace hg := (hg.to k4).to k5
  rcases hor with ⟨hf, rfl, m, b, rfl, hm, hb⟩ | ⟨hf, rfl, m, b, rfl, hm, hb⟩
  · refine r_store3 rfl rfl hg rfl rfl hm.one hb.one ?_
    intro w6 k6 hg6
    repeat (first | refine r_assign (by conv => (lhs; whnf)) ?_ | refine r_nil ?_ | refine q_then ?_ | refine wp_ret ?_)
    exact end2 rfl (resV_agg (by conv => (lhs; whnf)) hg6 rfl) (resV_tmp (by conv => (lhs; whnf))) ⟨Keeps.past k' k6 (by omega), _, _, rfl, .inl ⟨hf, rfl, m, b, rfl, hm.wrT k6 hg (by decide), hb.wrT k6 hg (by decide)⟩⟩
  · refine r_store3 rfl rfl hg rfl rfl hm.one hb.one ?_
    intro w6 k6 hg6
    repeat (first | refine r_assign (by conv => (lhs; whnf)) ?_ | refine r_nil ?_ | refine q_then ?_ | refine wp_ret ?_)
    exact end2 rfl (resV_agg (by conv => (lhs; whnf)) hg6 rfl) (resV_tmp (by conv => (lhs; whnf))) ⟨Keeps.past k' k6 (by omega), _, _, rfl, .inr ⟨hf, rfl, m, b, rfl, hm.wrT k6 hg (by decide), hb.wrT k6 hg (by decide)⟩⟩

theorem rmul_c {S : Nat → Prop} {w : World} {va vb : Value} {a b : Rat} (hS : Up S w) (ha : RatV S w va a) (hb : RatV S w vb b) (hla : rl a 400000000000) (hlb : rl b 400000000000) :
    Gives Tryz.prog 41 [va, vb] w fun v' w' => Ext w w' ∧ Tried S w' v' (a * b) := by
  have ha0 := ha
  have hb0 := hb
  obtain ⟨ma, ba, rfl, hma, hba⟩ := ha
  obtain ⟨mb, bb, rfl, hmb, hbb⟩ := hb
  refine gives_of Tryz.func41 rfl rfl rfl ?_
  repeat (first | refine wp_seq_region ?_ | refine wp_region ?_)
  refine r_box (cs := [.bool (tst (a.num < 0)), ma, ba]) (by conv => (lhs; whnf)) rfl ?_
  intro w1 ga k1 hga hgsa
  skip
  refine r_box (cs := [.bool (tst (b.num < 0)), mb, bb]) (by conv => (lhs; whnf)) rfl ?_
  intro w2 gb k2 hgb hgsb
  skip
  refine r_alloc (cs := [.bool false, .slice none 0 0, .slice none 0 0]) rfl ?_
  intro w3 g k3 hg hgs
  replace hga := hga.to (k2.trans k3)
  replace hgb := hgb.to k3
  have k := (k1.trans k2).trans k3
  have hs := (k1.trans k2).size
  replace ha0 := ha0.to k
  replace hb0 := hb0.to k
  replace hma := hma.to k
  replace hmb := hmb.to k
  replace hba := hba.to k
  replace hbb := hbb.to k
  replace hS := hS.to k
  clear k1 k2 k3
  repeat (first | refine wp_seq_region ?_ | refine wp_region ?_ | refine r_assign (by conv => (lhs; whnf)) ?_ | refine r_nil ?_)
  repeat (first | refine r_load_all rfl hga rfl ?_ | refine r_load_all rfl hgb rfl ?_)
  refine r_call (rtimes_c hS ha0 hb0 hla hlb) rfl ?_
  rintro v4 w4 ⟨k4, h4⟩
  repeat (first | refine r_func ?_)
  refine r_call (rattempt_c (hS.to k4) h4) rfl ?_
  rintro v5 w5 ⟨k5, r, e, rfl, hor⟩
  repeat (first | refine r_extract rfl rfl ?_)
  have k' := (k.trans k4).trans k5
  replace hg := (hg.to k4).to k5
  rcases hor with ⟨hf, rfl, m, b, rfl, hm, hb⟩ | ⟨hf, rfl, m, b, rfl, hm, hb⟩
  · refine r_store3 rfl rfl hg rfl rfl hm.one hb.one ?_
    intro w6 k6 hg6
    repeat (first | refine r_assign (by conv => (lhs; whnf)) ?_ | refine r_nil ?_ | refine q_then ?_ | refine wp_ret ?_)
    exact end2 rfl (resV_agg (by conv => (lhs; whnf)) hg6 rfl) (resV_tmp (by conv => (lhs; whnf))) ⟨Keeps.past k' k6 (by omega), _, _, rfl, .inl ⟨hf, rfl, m, b, rfl, hm.wrT k6 hg (by decide), hb.wrT k6 hg (by decide)⟩⟩
  · refine r_store3 rfl rfl hg rfl rfl hm.one hb.one ?_
    intro w6 k6 hg6
    repeat (first | refine r_assign (by conv => (lhs; whnf)) ?_ | refine r_nil ?_ | refine q_then ?_ | refine wp_ret ?_)
    exact end2 rfl (resV_agg (by conv => (lhs; whnf)) hg6 rfl) (resV_tmp (by conv => (lhs; whnf))) ⟨Keeps.past k' k6 (by omega), _, _, rfl, .inr ⟨hf, rfl, m, b, rfl, hm.wrT k6 hg (by decide), hb.wrT k6 hg (by decide)⟩⟩

theorem rquo_c {S : Nat → Prop} {w : World} {va vb : Value} {a b : Rat} (hS : Up S w) (ha : RatV S w va a) (hb : RatV S w vb b) (hla : rl a 400000000000) (hlb : rl b 400000000000) (hb0' : b.num ≠ 0) :
    Gives Tryz.prog 42 [va, vb] w fun v' w' => Ext w w' ∧ Tried S w' v' (a / b) := by
  have ha0 := ha
  have hb0 := hb
  obtain ⟨ma, ba, rfl, hma, hba⟩ := ha
  obtain ⟨mb, bb, rfl, hmb, hbb⟩ := hb
  refine gives_of Tryz.func42 rfl rfl rfl ?_
  repeat (first | refine wp_seq_region ?_ | refine wp_region ?_)
  refine r_box (cs := [.bool (tst (a.num < 0)), ma, ba]) (by conv => (lhs; whnf)) rfl ?_
  intro w1 ga k1 hga hgsa
  skip
  refine r_box (cs := [.bool (tst (b.num < 0)), mb, bb]) (by conv => (lhs; whnf)) rfl ?_
  intro w2 gb k2 hgb hgsb
  skip
  refine r_alloc (cs := [.bool false, .slice none 0 0, .slice none 0 0]) rfl ?_
  intro w3 g k3 hg hgs
  replace hga := hga.to (k2.trans k3)
  replace hgb := hgb.to k3
  have k := (k1.trans k2).trans k3
  have hs := (k1.trans k2).size
  replace ha0 := ha0.to k
  replace hb0 := hb0.to k
  replace hma := hma.to k
  replace hmb := hmb.to k
  replace hba := hba.to k
  replace hbb := hbb.to k
  replace hS := hS.to k
  clear k1 k2 k3
  repeat (first | refine wp_seq_region ?_ | refine wp_seq_seq ?_ | refine wp_region ?_ | refine r_assign (by conv => (lhs; whnf)) ?_ | refine r_nil ?_)
  repeat (first | refine r_load_all rfl hgb rfl ?_)
  refine r_call (rsign_c hb0) rfl ?_
  rintro v3 w3 ⟨rfl, k3⟩
  replace hS := hS.to k3
  replace hga := hga.to k3
  replace hgb := hgb.to k3
  replace hg := hg.to k3
  replace ha0 := ha0.to k3
  replace hb0 := hb0.to k3
  replace k := k.trans k3
  have hsg : b.num.sign ≠ 0 := fun h => hb0' (Int.sign_eq_zero_iff_zero.1 h)
  repeat (first | refine r_load_all rfl hga rfl ?_ | refine r_load_all rfl hgb rfl ?_ | refine wp_seq_region ?_ | refine wp_region ?_ | refine r_nil ?_ | refine q_then ?_ | refine wp_skip ?_ | refine r_eql rfl rfl ?_ | refine wp_cond_no rfl (by omega) ?_)
  refine r_call (rover_c hS ha0 hb0 hla hlb hb0') rfl ?_
  rintro v4 w4 ⟨k4, h4⟩
  repeat (first | refine r_func ?_)
  refine r_call (rattempt_c (hS.to k4) h4) rfl ?_
  rintro v5 w5 ⟨k5, r, e, rfl, hor⟩
  repeat (first | refine r_extract rfl rfl ?_)
  have k' := (k.trans k4).trans k5
  replace hg := (hg.to k4).to k5
  rcases hor with ⟨hf, rfl, m, b, rfl, hm, hb⟩ | ⟨hf, rfl, m, b, rfl, hm, hb⟩
  · refine r_store3 rfl rfl hg rfl rfl hm.one hb.one ?_
    intro w6 k6 hg6
    repeat (first | refine r_assign (by conv => (lhs; whnf)) ?_ | refine r_nil ?_ | refine q_then ?_ | refine wp_ret ?_)
    exact end2 rfl (resV_agg (by conv => (lhs; whnf)) hg6 rfl) (resV_tmp (by conv => (lhs; whnf))) ⟨Keeps.past k' k6 (by omega), _, _, rfl, .inl ⟨hf, rfl, m, b, rfl, hm.wrT k6 hg (by decide), hb.wrT k6 hg (by decide)⟩⟩
  · refine r_store3 rfl rfl hg rfl rfl hm.one hb.one ?_
    intro w6 k6 hg6
    repeat (first | refine r_assign (by conv => (lhs; whnf)) ?_ | refine r_nil ?_ | refine q_then ?_ | refine wp_ret ?_)
    exact end2 rfl (resV_agg (by conv => (lhs; whnf)) hg6 rfl) (resV_tmp (by conv => (lhs; whnf))) ⟨Keeps.past k' k6 (by omega), _, _, rfl, .inr ⟨hf, rfl, m, b, rfl, hm.wrT k6 hg (by decide), hb.wrT k6 hg (by decide)⟩⟩

theorem rquo0_c {S : Nat → Prop} {w : World} {va vb : Value} {a b : Rat} (hS : Up S w) (ha : RatV S w va a) (hb : RatV S w vb b) (hb0' : b.num = 0) :
    Gives Tryz.prog 42 [va, vb] w fun v' w' => Ext w w' ∧ ∃ r, v' = .tuple #[r, .int .i64 6] ∧ RatV S w' r 0 := by
  have ha0 := ha
  have hb0 := hb
  obtain ⟨ma, ba, rfl, hma, hba⟩ := ha
  obtain ⟨mb, bb, rfl, hmb, hbb⟩ := hb
  refine gives_of Tryz.func42 rfl rfl rfl ?_
  repeat (first | refine wp_seq_region ?_ | refine wp_region ?_)
  refine r_box (cs := [.bool (tst (a.num < 0)), ma, ba]) (by conv => (lhs; whnf)) rfl ?_
  intro w1 ga k1 hga hgsa
  skip
  refine r_box (cs := [.bool (tst (b.num < 0)), mb, bb]) (by conv => (lhs; whnf)) rfl ?_
  intro w2 gb k2 hgb hgsb
  skip
  refine r_alloc (cs := [.bool false, .slice none 0 0, .slice none 0 0]) rfl ?_
  intro w3 g k3 hg hgs
  replace hga := hga.to (k2.trans k3)
  replace hgb := hgb.to k3
  have k := (k1.trans k2).trans k3
  have hs := (k1.trans k2).size
  replace ha0 := ha0.to k
  replace hb0 := hb0.to k
  replace hma := hma.to k
  replace hmb := hmb.to k
  replace hba := hba.to k
  replace hbb := hbb.to k
  replace hS := hS.to k
  clear k1 k2 k3
  repeat (first | refine wp_seq_region ?_ | refine wp_seq_seq ?_ | refine wp_region ?_ | refine r_assign (by conv => (lhs; whnf)) ?_ | refine r_nil ?_)
  repeat (first | refine r_load_all rfl hgb rfl ?_)
  refine r_call (rsign_c hb0) rfl ?_
  rintro v3 w3 ⟨rfl, k3⟩
  replace hg := hg.to k3
  have hsg : b.num.sign = 0 := by rw [hb0']; rfl
  repeat (first | refine wp_seq_region ?_ | refine wp_region ?_ | refine r_nil ?_ | refine q_then ?_ | refine r_eql rfl rfl ?_ | refine wp_cond_yes rfl (by omega) ?_)
  refine r_build0 (cs := [.bool false, .slice none 0 0, .slice none 0 0]) rfl ?_
  refine r_store3 rfl (by conv => (lhs; whnf)) hg rfl rfl rfl rfl ?_
  intro w6 k6 hg6
  repeat (first | refine r_assign (by conv => (lhs; whnf)) ?_ | refine r_nil ?_ | refine q_then ?_ | refine wp_ret ?_ | refine q_then_ret ?_)
  exact end2 rfl (resV_agg (by conv => (lhs; whnf)) hg6 rfl) (resV_tmp (by conv => (lhs; whnf))) ⟨Keeps.past (k.trans k3) k6 (by omega), _, rfl, zero_rat⟩

theorem iadd_c {S : Nat → Prop} {w : World} {va vb : Value} {a b : Int} (hS : Up S w) (ha : IntV S 127 .u32 w va a) (hb : IntV S 127 .u32 w vb b) (hla : zl a ≤ 1099511627000) (hlb : zl b ≤ 1099511627000) :
    Gives Tryz.prog 24 [va, vb] w fun v' w' => Ext w w' ∧ ITried S w' v' (a + b) := by
  obtain ⟨ma, rfl, hma⟩ := ha
  obtain ⟨mb, rfl, hmb⟩ := hb
  refine gives_of Tryz.func24 rfl rfl rfl ?_
  repeat (first | refine wp_seq_region ?_ | refine wp_region ?_)
  refine r_box (cs := [.bool (tst (a < 0)), ma]) (by conv => (lhs; whnf)) rfl ?_
  intro w1 ga k1 hga hgsa
  skip
  refine r_box (cs := [.bool (tst (b < 0)), mb]) (by conv => (lhs; whnf)) rfl ?_
  intro w2 gb k2 hgb hgsb
  skip
  refine r_alloc (cs := [.bool false, .slice none 0 0]) rfl ?_
  intro w3 g k3 hg hgs
  replace hga := hga.to (k2.trans k3)
  replace hgb := hgb.to k3
  have k := (k1.trans k2).trans k3
  have hs := (k1.trans k2).size
  replace hma := hma.to k
  replace hmb := hmb.to k
  replace hS := hS.to k
  clear k1 k2 k3
  repeat (first | refine r_load_all rfl hga rfl ?_ | refine r_load_all rfl hgb rfl ?_ | refine wp_seq_region ?_ | refine wp_region ?_ | refine r_assign (by conv => (lhs; whnf)) ?_ | refine r_nil ?_)
  refine r_call (iplus_c hS ⟨ma, rfl, hma⟩ ⟨mb, rfl, hmb⟩ (by unfold zl at hla; omega) (by unfold zl at hlb; omega)) rfl ?_
  rintro v4 w4 ⟨k4, h4⟩
  repeat (first | refine r_func ?_)
  refine r_call (iattempt_c (hS.to k4) h4) rfl ?_
  rintro v5 w5 ⟨k5, r, e, rfl, hor⟩
  repeat (first | refine r_extract rfl rfl ?_)
  have k' := (k.trans k4).trans k5
  replace hg := (hg.to k4).to k5
  rcases hor with ⟨hf, rfl, m, rfl, hm⟩ | ⟨hf, rfl, m, rfl, hm⟩
  · refine r_store2 rfl rfl hg rfl hm.one ?_
    intro w6 k6 hg6
    repeat (first | refine r_assign (by conv => (lhs; whnf)) ?_ | refine r_nil ?_ | refine q_then ?_ | refine wp_ret ?_)
    exact end2 rfl (resV_agg (by conv => (lhs; whnf)) hg6 rfl) (resV_tmp (by conv => (lhs; whnf))) ⟨Keeps.past k' k6 (by omega), _, _, rfl, .inl ⟨hf, rfl, m, rfl, hm.wrT k6 hg (by decide)⟩⟩
  · refine r_store2 rfl rfl hg rfl hm.one ?_
    intro w6 k6 hg6
    repeat (first | refine r_assign (by conv => (lhs; whnf)) ?_ | refine r_nil ?_ | refine q_then ?_ | refine wp_ret ?_)
    exact end2 rfl (resV_agg (by conv => (lhs; whnf)) hg6 rfl) (resV_tmp (by conv => (lhs; whnf))) ⟨Keeps.past k' k6 (by omega), _, _, rfl, .inr ⟨hf, rfl, m, rfl, hm.wrT k6 hg (by decide)⟩⟩

theorem isub_c {S : Nat → Prop} {w : World} {va vb : Value} {a b : Int} (hS : Up S w) (ha : IntV S 127 .u32 w va a) (hb : IntV S 127 .u32 w vb b) (hla : zl a ≤ 1099511627000) (hlb : zl b ≤ 1099511627000) :
    Gives Tryz.prog 25 [va, vb] w fun v' w' => Ext w w' ∧ ITried S w' v' (a - b) := by
  obtain ⟨ma, rfl, hma⟩ := ha
  obtain ⟨mb, rfl, hmb⟩ := hb
  refine gives_of Tryz.func25 rfl rfl rfl ?_
  repeat (first | refine wp_seq_region ?_ | refine wp_region ?_)
  refine r_box (cs := [.bool (tst (a < 0)), ma]) (by conv => (lhs; whnf)) rfl ?_
  intro w1 ga k1 hga hgsa
  skip
  refine r_box (cs := [.bool (tst (b < 0)), mb]) (by conv => (lhs; whnf)) rfl ?_
  intro w2 gb k2 hgb hgsb
  skip
  refine r_alloc (cs := [.bool false, .slice none 0 0]) rfl ?_
  intro w3 g k3 hg hgs
  replace hga := hga.to (k2.trans k3)
  replace hgb := hgb.to k3
  have k := (k1.trans k2).trans k3
  have hs := (k1.trans k2).size
  replace hma := hma.to k
  replace hmb := hmb.to k
  replace hS := hS.to k
  clear k1 k2 k3
  repeat (first | refine r_load_all rfl hga rfl ?_ | refine r_load_all rfl hgb rfl ?_ | refine wp_seq_region ?_ | refine wp_region ?_ | refine r_assign (by conv => (lhs; whnf)) ?_ | refine r_nil ?_)
  refine r_call (iminus_c hS ⟨ma, rfl, hma⟩ ⟨mb, rfl, hmb⟩ hla hlb) rfl ?_
  rintro v4 w4 ⟨k4, h4⟩
  repeat (first | refine r_func ?_)
  refine r_call (iattempt_c (hS.to k4) h4) rfl ?_
  rintro v5 w5 ⟨k5, r, e, rfl, hor⟩
  repeat (first | refine r_extract rfl rfl ?_)
  have k' := (k.trans k4).trans k5
  replace hg := (hg.to k4).to k5
  rcases hor with ⟨hf, rfl, m, rfl, hm⟩ | ⟨hf, rfl, m, rfl, hm⟩
  · refine r_store2 rfl rfl hg rfl hm.one ?_
    intro w6 k6 hg6
    repeat (first | refine r_assign (by conv => (lhs; whnf)) ?_ | refine r_nil ?_ | refine q_then ?_ | refine wp_ret ?_)
    exact end2 rfl (resV_agg (by conv => (lhs; whnf)) hg6 rfl) (resV_tmp (by conv => (lhs; whnf))) ⟨Keeps.past k' k6 (by omega), _, _, rfl, .inl ⟨hf, rfl, m, rfl, hm.wrT k6 hg (by decide)⟩⟩
  · refine r_store2 rfl rfl hg rfl hm.one ?_
    intro w6 k6 hg6
    repeat (first | refine r_assign (by conv => (lhs; whnf)) ?_ | refine r_nil ?_ | refine q_then ?_ | refine wp_ret ?_)
    exact end2 rfl (resV_agg (by conv => (lhs; whnf)) hg6 rfl) (resV_tmp (by conv => (lhs; whnf))) ⟨Keeps.past k' k6 (by omega), _, _, rfl, .inr ⟨hf, rfl, m, rfl, hm.wrT k6 hg (by decide)⟩⟩

theorem imul_c {S : Nat → Prop} {w : World} {va vb : Value} {a b : Int} (hS : Up S w) (ha : IntV S 127 .u32 w va a) (hb : IntV S 127 .u32 w vb b) (hla : zl a ≤ 1099511627000) (hlb : zl b ≤ 1099511627000) :
    Gives Tryz.prog 26 [va, vb] w fun v' w' => Ext w w' ∧ ITried S w' v' (a * b) := by
  obtain ⟨ma, rfl, hma⟩ := ha
  obtain ⟨mb, rfl, hmb⟩ := hb
  refine gives_of Tryz.func26 rfl rfl rfl ?_
  repeat (first | refine wp_seq_region ?_ | refine wp_region ?_)
  refine r_box (cs := [.bool (tst (a < 0)), ma]) (by conv => (lhs; whnf)) rfl ?_
  intro w1 ga k1 hga hgsa
  skip
  refine r_box (cs := [.bool (tst (b < 0)), mb]) (by conv => (lhs; whnf)) rfl ?_
  intro w2 gb k2 hgb hgsb
  skip
  refine r_alloc (cs := [.bool false, .slice none 0 0]) rfl ?_
  intro w3 g k3 hg hgs
  replace hga := hga.to (k2.trans k3)
  replace hgb := hgb.to k3
  have k := (k1.trans k2).trans k3
  have hs := (k1.trans k2).size
  replace hma := hma.to k
  replace hmb := hmb.to k
  replace hS := hS.to k
  clear k1 k2 k3
  repeat (first | refine r_load_all rfl hga rfl ?_ | refine r_load_all rfl hgb rfl ?_ | refine wp_seq_region ?_ | refine wp_region ?_ | refine r_assign (by conv => (lhs; whnf)) ?_ | refine r_nil ?_)
  refine r_call (itimes_c hS ⟨ma, rfl, hma⟩ ⟨mb, rfl, hmb⟩ hla hlb) rfl ?_
  rintro v4 w4 ⟨k4, h4⟩
  repeat (first | refine r_func ?_)
  refine r_call (iattempt_c (hS.to k4) h4) rfl ?_
  rintro v5 w5 ⟨k5, r, e, rfl, hor⟩
  repeat (first | refine r_extract rfl rfl ?_)
  have k' := (k.trans k4).trans k5
  replace hg := (hg.to k4).to k5
  rcases hor with ⟨hf, rfl, m, rfl, hm⟩ | ⟨hf, rfl, m, rfl, hm⟩
  · refine r_store2 rfl rfl hg rfl hm.one ?_
    intro w6 k6 hg6
    repeat (first | refine r_assign (by conv => (lhs; whnf)) ?_ | refine r_nil ?_ | refine q_then ?_ | refine wp_ret ?_)
    exact end2 rfl (resV_agg (by conv => (lhs; whnf)) hg6 rfl) (resV_tmp (by conv => (lhs; whnf))) ⟨Keeps.past k' k6 (by omega), _, _, rfl, .inl ⟨hf, rfl, m, rfl, hm.wrT k6 hg (by decide)⟩⟩
  · refine r_store2 rfl rfl hg rfl hm.one ?_
    intro w6 k6 hg6
    repeat (first | refine r_assign (by conv => (lhs; whnf)) ?_ | refine r_nil ?_ | refine q_then ?_ | refine wp_ret ?_)
    exact end2 rfl (resV_agg (by conv => (lhs; whnf)) hg6 rfl) (resV_tmp (by conv => (lhs; whnf))) ⟨Keeps.past k' k6 (by omega), _, _, rfl, .inr ⟨hf, rfl, m, rfl, hm.wrT k6 hg (by decide)⟩⟩
end Go.Proofs.YtpmnjjmngogkkaaGreatDoor
