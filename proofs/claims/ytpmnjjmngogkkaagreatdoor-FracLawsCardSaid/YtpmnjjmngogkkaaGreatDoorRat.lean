/- Fractions: how they lie, reduced ones, their parts. -/
import Derived.Test.YtpmnjjmngogkkaaGreatDoorStr
set_option linter.unusedVariables false
set_option linter.unusedSimpArgs false
namespace Go.Proofs.YtpmnjjmngogkkaaGreatDoor
open Go Go.RowKit

section rules
variable {P : Program} {n : Nat} {Q : Post} {ρ : Fr} {w : World} {all rest : List Oper} {d : Tmp} {ty : TypeId} {pos : String} {aft : Array Edge}
/-- A part of a block as one value. -/
theorem r_load_part {t : TypeId} {s b : Nat} {z : Value} [ti : TyI P t s b z true] {x : Operand} {g o : Nat} {T : TypeId} {cs us : List Value}
    (hx : ev ρ x = .pointer (some ⟨g, o, none⟩)) (hb : Blk w g T cs) (hu : (cs.drop o).take s = us) (hs : us.length = s) (h : WpR P n all Q rest (upd ρ d (.agg us.toArray)) w) :
    WpR P n all Q (⟨some d, .load t x, ty, pos, aft, none⟩ :: rest) ρ w := by
  subst hu
  refine r_load hx (load_agg ti hs fun i hi => ?_) h
  have h1 : ((cs.drop o).take s)[i]? = cs[o + i]? := by
    rw [List.getElem?_take, if_pos (by omega), List.getElem?_drop]
  rw [h1]
  rw [hs] at hi
  have hl : o + i < cs.length := by
    rw [List.length_take, List.length_drop] at hs
    omega
  rw [List.getElem?_eq_getElem hl]
  exact hb.cell (List.getElem?_eq_getElem hl)
theorem r_build3 {d : Tmp} {T : TypeId} {bb : Nat} {z0 z1 z2 : Value} [ti : TyI P T 3 bb (.agg #[z0, z1, z2]) true] [st : StcT P T [(0, 2), (2, 1)]]
    {x y : Operand} {a b c : Value} (hx : ev ρ x = .agg #[a, b]) (hy : ev ρ y = c) (h1 : c.oneCell' = true)
    (h : WpR P n all Q rest (upd ρ d (.agg #[a, b, c])) w) : WpR P n all Q (⟨some d, .build T #[(0, x), (1, y)], ty, pos, aft, none⟩ :: rest) ρ w :=
  r_build (parts := [(0, x), (1, y)]) (zs := [z0, z1, z2]) (cs := [a, b, c]) (vs := [(0, .agg #[a, b]), (1, c)]) rfl (by rw [← hx, ← hy]; rfl)
    (fill_two rfl (by simp) (fill_one rfl h1 (by simp) fill_nil)) h
theorem r_build2of3 {d : Tmp} {T : TypeId} {bb : Nat} {z0 z1 z2 : Value} [ti : TyI P T 3 bb (.agg #[z0, z1, z2]) true] [st : StcT P T [(0, 2), (2, 1)]]
    {x : Operand} {a b : Value} (hx : ev ρ x = .agg #[a, b])
    (h : WpR P n all Q rest (upd ρ d (.agg #[a, b, z2])) w) : WpR P n all Q (⟨some d, .build T #[(0, x)], ty, pos, aft, none⟩ :: rest) ρ w :=
  r_build (parts := [(0, x)]) (zs := [z0, z1, z2]) (cs := [a, b, z2]) (vs := [(0, .agg #[a, b])]) rfl (by rw [← hx]; rfl) (fill_two rfl (by simp) fill_nil) h
theorem ones3 {a b c : Value} (h1 : a.oneCell' = true) (h2 : b.oneCell' = true) (h3 : c.oneCell' = true) : ∀ v ∈ [a, b, c], v.oneCell' = true := fun v hv => by
  simp only [List.mem_cons, List.not_mem_nil, or_false] at hv
  rcases hv with rfl | rfl | rfl <;> assumption
theorem r_store3 {t : TypeId} {bb : Nat} {z : Value} {agg : Bool} [ti : TyI P t 3 bb z agg] {x y : Operand} {g : Nat} {T : TypeId} {a b c : Value} {cs : List Value}
    (hx : ev ρ x = .pointer (some ⟨g, 0, none⟩)) (hy : ev ρ y = .agg #[a, b, c]) (hb : Blk w g T cs) (hl : cs.length = 3) (h1 : a.oneCell' = true) (h2 : b.oneCell' = true) (h3 : c.oneCell' = true)
    (h : ∀ w', Wrt g w w' → Blk w' g T [a, b, c] → WpR P n all Q rest ρ w') : WpR P n all Q (⟨none, .store t x y, ty, pos, aft, none⟩ :: rest) ρ w :=
  r_store_all (us := [a, b, c]) hx hy rfl rfl hb hl (ones3 h1 h2 h3) h
end rules

/-- The denominator, as it is kept. -/
def bot (q : Rat) : Nat := if q.den = 1 then 0 else q.den
/-- v is the fraction q. -/
def RatV (S : Nat → Prop) (w : World) (v : Value) (q : Rat) : Prop :=
  ∃ m b, v = .agg #[.bool (tst (q.num < 0)), m, b] ∧ NatV S 127 .u32 w m q.num.natAbs ∧ NatV S 127 .u32 w b (bot q)
theorem RatV.keep {S : Nat → Prop} {w w' : World} {v : Value} {q : Rat} (h : RatV S w v q) (k : Keeps S w w') : RatV S w' v q := let ⟨m, b, h1, h2, h3⟩ := h; ⟨m, b, h1, h2.keep k, h3.keep k⟩
theorem RatV.to {S : Nat → Prop} {w w' : World} {v : Value} {q : Rat} (h : RatV S w v q) (k : Ext w w') : RatV S w' v q := h.keep (.of k)
theorem RatV.mono {S S' : Nat → Prop} {w : World} {v : Value} {q : Rat} (h : RatV S w v q) (hs : ∀ k, k < w.heap.size → S k → S' k) : RatV S' w v q := let ⟨m, b, h1, h2, h3⟩ := h; ⟨m, b, h1, h2.mono hs, h3.mono hs⟩
def ratE (S : Nat → Prop) (q : Rat) : Ent := Ent.of (fun v w => RatV S w v q) fun v w w' h kk => h.to kk
/-- The sizes of a fraction's parts. -/
abbrev rl (q : Rat) (n : Nat) : Prop := dl q.num.natAbs ≤ n ∧ dl q.den ≤ n

theorem den_c {S : Nat → Prop} {w : World} {v : Value} {q : Rat} (hS : Up S w) (h : RatV S w v q) :
    Gives Tryz.prog 115 [v] w fun v' w' => Ext w w' ∧ NatV S 127 .u32 w' v' q.den := by
  obtain ⟨m, b, rfl, hm, hb⟩ := h
  have hl : (dg (bot q)).length = 0 ↔ q.den = 1 := by
    have h1 := @dl_eq_zero (bot q)
    unfold dl at h1
    rw [h1]
    unfold bot
    have := q.den_pos
    split <;> omega
  refine gives_of Tryz.func115 rfl rfl rfl ?_
  repeat (first | refine wp_seq_region ?_ | refine wp_region ?_)
  refine r_box (cs := [.bool (tst (q.num < 0)), m, b]) (by conv => (lhs; whnf)) rfl ?_
  intro w1 g k1 hg hgs
  replace hb := hb.to k1
  repeat (first | refine r_load_blk rfl hg rfl ?_ | refine wp_seq_region ?_ | refine wp_seq_seq ?_ | refine wp_region ?_ | refine r_assign (by conv => (lhs; whnf)) ?_ | refine r_nil ?_ | refine q_then ?_ | refine r_len (by conv => (lhs; whnf)) (by assumption) ?_ | refine r_eql rfl rfl ?_ | refine r_field rfl ?_)
  try refine wp_seq_cond ?_
  refine wp_cond_dec rfl ?_ ?_ <;> intro hc
  · repeat (first | refine wp_seq_region ?_ | refine wp_region ?_)
    refine r_call (one_c (hS.to k1)) rfl ?_
    rintro v2 w2 ⟨k2, h2⟩
    repeat (first | refine r_assign (by conv => (lhs; whnf)) ?_ | refine r_nil ?_ | refine q_then ?_ | refine wp_ret ?_ | refine q_then_ret ?_)
    refine end_tmp rfl (by conv => (lhs; whnf)) ⟨k1.trans k2, ?_⟩
    rw [hl.1 (by omega)]
    exact h2
  · repeat (first | refine r_load_blk rfl hg rfl ?_ | refine wp_seq_region ?_ | refine wp_region ?_ | refine r_assign (by conv => (lhs; whnf)) ?_ | refine r_nil ?_ | refine q_then ?_ | refine wp_ret ?_ | refine wp_skip ?_ | refine r_field rfl ?_)
    refine end_tmp rfl (by conv => (lhs; whnf)) ⟨k1, ?_⟩
    have h1 : bot q = q.den := by unfold bot; rw [if_neg (fun h => hc (by have := hl.2 h; omega))]
    rw [h1] at hb
    exact hb
theorem rden_c {S : Nat → Prop} {w : World} {v : Value} {q : Rat} (hS : Up S w) (h : RatV S w v q) :
    Gives Tryz.prog 64 [v] w fun v' w' => Ext w w' ∧ IntV S 127 .u32 w' v' (q.den : Int) := by
  have h0 := h
  obtain ⟨m, b, rfl, hm, hb⟩ := h
  refine gives_of Tryz.func64 rfl rfl rfl ?_
  repeat (first | refine wp_seq_region ?_ | refine wp_region ?_)
  refine r_box (cs := [.bool (tst (q.num < 0)), m, b]) (by conv => (lhs; whnf)) rfl ?_
  intro w1 g k1 hg hgs
  skip
  refine r_alloc (cs := [.bool false, .slice none 0 0]) rfl ?_
  intro w2 g2 k2 hg2 hgs2
  replace hg := hg.to k2
  have hk1 := k1.size
  repeat (first | refine r_load_all rfl hg rfl ?_ | refine wp_seq_region ?_ | refine wp_region ?_ | refine r_nil ?_)
  refine r_call (den_c (hS.to (k1.trans k2)) (h0.to (k1.trans k2))) rfl ?_
  rintro v3 w3 ⟨k3, h3⟩
  refine r_call (signed0_c h3) rfl ?_
  rintro v4 w4 ⟨k4, m4, rfl, h4⟩
  have hg4 := hg2.to (k3.trans k4)
  refine r_store2 rfl (by conv => (lhs; whnf)) hg4 rfl h4.one ?_
  intro w5 k5 hg5
  repeat (first | refine r_nil ?_ | refine q_then ?_ | refine wp_ret ?_)
  exact end1 rfl (resV_agg (by conv => (lhs; whnf)) hg5 rfl) ⟨Keeps.past (((k1.trans k2).trans k3).trans k4) k5 (by omega), m4, rfl, h4.wrT k5 hg4 (by decide)⟩

theorem mkRat_parts (z : Int) {d : Nat} (hd : 0 < d) : (mkRat z d).num.natAbs = z.natAbs / Nat.gcd d z.natAbs ∧ (mkRat z d).den = d / Nat.gcd d z.natAbs ∧ ((mkRat z d).num < 0 ↔ z < 0) ∧ (mkRat z d).num = z / (Nat.gcd d z.natAbs : Nat) := by
  have hg : 0 < Nat.gcd d z.natAbs := Nat.gcd_pos_of_pos_left _ hd
  have e : mkRat z d = Rat.normalize z d (by omega) := by unfold mkRat; rw [dif_neg (by omega)]
  have hn : (mkRat z d).num = z / (Nat.gcd d z.natAbs : Nat) := by rw [e, Rat.normalize_eq]; show z / ((Nat.gcd z.natAbs d : Nat) : Int) = _; rw [Nat.gcd_comm]
  have hdn : (mkRat z d).den = d / Nat.gcd d z.natAbs := by rw [e, Rat.normalize_eq]; show d / Nat.gcd z.natAbs d = _; rw [Nat.gcd_comm]
  obtain ⟨c, hc⟩ : ((Nat.gcd d z.natAbs : Nat) : Int) ∣ z := Int.ofNat_dvd_left.2 (Nat.gcd_dvd_right ..)
  generalize Nat.gcd d z.natAbs = g at *
  have h1 : z / (g : Int) = c := by rw [hc]; exact Int.mul_ediv_cancel_left _ (by omega)
  have h2 : z.natAbs = g * c.natAbs := by rw [hc, Int.natAbs_mul, Int.natAbs_natCast]
  refine ⟨?_, hdn, ?_, hn⟩
  · rw [hn, h1, h2, Nat.mul_div_cancel_left _ hg]
  · rw [hn, h1, hc]
    constructor
    · intro h; exact Int.mul_neg_of_pos_of_neg (by omega) h
    · intro h
      rcases Int.lt_trichotomy c 0 with h3 | h3 | h3
      · exact h3
      · subst h3; simp at h
      · have := Int.mul_pos (show (0 : Int) < g by omega) h3; omega

theorem reduced_c {S : Nat → Prop} {w : World} {vn vd : Value} {z : Int} {d : Nat} (hS : Up S w) (hz : IntV S 127 .u32 w vn z) (hd : NatV S 127 .u32 w vd d) (hd0 : 0 < d) (hlz : zl z ≤ 1099511626000) (hld : dl d ≤ 1099511626000) :
    Gives Tryz.prog 85 [vn, vd] w fun v' w' => Ext w w' ∧ RatV S w' v' (mkRat z d) := by
  obtain ⟨m, rfl, hm⟩ := hz
  obtain ⟨hp1, hp2, hp3, _⟩ := mkRat_parts z hd0
  have hg0 : 0 < Nat.gcd d z.natAbs := Nat.gcd_pos_of_pos_left _ hd0
  unfold zl at hlz
  have hlg : dl (Nat.gcd d z.natAbs) ≤ 1099511626000 := Nat.le_trans (dl_mono (Nat.gcd_le_left _ hd0)) hld
  refine gives_of Tryz.func85 rfl rfl rfl ?_
  repeat (first | refine wp_seq_region ?_ | refine wp_region ?_)
  refine r_box (cs := [.bool (tst (z < 0)), m]) (by conv => (lhs; whnf)) rfl ?_
  intro w1 g k1 hg hgs
  skip
  refine r_alloc (cs := [.bool false, .slice none 0 0, .slice none 0 0]) rfl ?_
  intro w2 g2 k2 hg2 hgs2
  have hgl := hg.lt
  replace hg := hg.to k2
  have k := k1.trans k2
  have hk1 := k1.size
  replace hm := hm.to k
  replace hd := hd.to k
  have hS2 := hS.to k
  repeat (first | refine r_load_blk rfl hg rfl ?_ | refine wp_seq_region ?_ | refine wp_region ?_ | refine r_move (by conv => (lhs; whnf)) ?_ | refine r_nil ?_ | refine r_field rfl ?_)
  refine r_call (gcd_c hS2 hd hm (by omega) (by omega)) rfl ?_
  rintro v3 w3 ⟨k3, h3⟩
  repeat (first | refine wp_seq_region ?_ | refine wp_seq_seq ?_ | refine wp_region ?_ | refine r_move (by conv => (lhs; whnf)) ?_ | refine r_assign (by conv => (lhs; whnf)) ?_ | refine r_nil ?_)
  refine r_call (isOne_c h3) rfl ?_
  rintro v4 w4 ⟨rfl, rfl⟩
  replace hg := hg.to k3
  replace hg2 := hg2.to k3
  replace hm := hm.to k3
  replace hd := hd.to k3
  have hS4 := hS2.to k3
  have kk := k.trans k3
  repeat (first | refine r_nil ?_ | refine q_then ?_ | refine r_notB rfl ?_)
  first | refine wp_seq_cond ?_ | refine wp_thenB ?_ | refine wp_thenBB ?_ | skip
  refine wp_join [(1, 1), (13, 26)] (fun ρ w' => ∃ mv dv, Blk w' g 26 [.bool (tst (z < 0)), mv] ∧ ρ 1 = dv ∧ NatV S 127 .u32 w' mv (z.natAbs / Nat.gcd d z.natAbs) ∧ NatV S 127 .u32 w' dv (d / Nat.gcd d z.natAbs) ∧ Ext w w' ∧ Blk w' g2 34 [.bool false, .slice none 0 0, .slice none 0 0]) rfl ?_ ?_ ?_
  · intro hc
    repeat (first | refine r_load_blk rfl hg rfl ?_ | refine wp_seq_region ?_ | refine wp_region ?_ | refine r_move (by conv => (lhs; whnf)) ?_ | refine r_field rfl ?_)
    refine r_call (over_c hS4 hm h3 (by omega) (by omega) hg0) rfl ?_
    rintro v5 w5 ⟨vq, vr, rfl, k5, hvq, hvr⟩
    repeat (first | refine r_move (by conv => (lhs; whnf)) ?_ | refine r_extract rfl rfl ?_ | refine r_field rfl ?_)
    refine r_store rfl rfl (hg.to k5) (show 1 < 2 by decide) hvq.one ?_
    intro w6 k6 hg6
    have hg2' := (hg2.to k5).wr k6 (by omega)
    replace hvq := hvq.wrT k6 (hg.to k5) (by decide)
    have hS6 : Up S w6 := fun i hi => hS4 i (by have := k5.size; have := k6.size; omega)
    repeat (first | refine wp_region ?_ | refine r_move (by conv => (lhs; whnf)) ?_ | refine r_nil ?_)
    refine r_call (over_c hS6 ((hd.to k5).wrT k6 (hg.to k5) (by decide)) ((h3.to k5).wrT k6 (hg.to k5) (by decide)) (by omega) (by omega) hg0) rfl ?_
    rintro v7 w7 ⟨vq2, vr2, rfl, k7, hvq2, hvr2⟩
    repeat (first | refine r_move (by conv => (lhs; whnf)) ?_ | refine r_assign (by conv => (lhs; whnf)) ?_ | refine r_nil ?_ | refine q_then ?_ | refine r_extract rfl rfl ?_)
    exact ⟨by (repeat (first | refine agree_upd rfl ?_ | exact agree_over | refine agree_sub rfl ?_ | exact agree_refl)), _, _, hg6.to k7, rfl, hvq.to k7, hvq2, (Keeps.past (kk.trans k5) k6 hgs).trans k7, hg2'.to k7⟩
  · intro hc
    have h1 : Nat.gcd d z.natAbs = 1 := Classical.not_not.1 hc
    repeat (first | refine q_then ?_ | refine wp_skip ?_)
    refine ⟨by (repeat (first | refine agree_upd rfl ?_ | exact agree_over | refine agree_sub rfl ?_ | exact agree_refl)), _, _, hg, rfl, ?_, ?_, kk, hg2⟩
    · rw [h1, Nat.div_one]; exact hm
    · rw [h1, Nat.div_one]; exact hd
  rintro u w5 ⟨mv, dv, hg5, h1, hmv, hdv, k5, hg25⟩
  refine wp_learn 1 h1 ?_
  have hS5 := hS.to k5
  repeat (first | refine wp_seq_region ?_ | refine wp_seq_seq ?_ | refine wp_region ?_ | refine r_move (by conv => (lhs; whnf)) ?_)
  refine r_call (isOne_c hdv) rfl ?_
  rintro v6 w6 ⟨rfl, rfl⟩
  repeat (first | refine r_nil ?_ | refine q_then ?_)
  first | refine wp_seq_cond ?_ | refine wp_thenB ?_ | refine wp_thenBB ?_ | skip
  refine wp_join [(1, 1)] (fun ρ w' => ∃ dv, ρ 1 = dv ∧ NatV S 127 .u32 w6 dv (bot (mkRat z d)) ∧ w' = w6) rfl ?_ ?_ ?_
  · intro hc
    repeat (first | refine wp_region ?_ | refine r_assign (by conv => (lhs; whnf)) ?_ | refine r_nil ?_ | refine q_then ?_)
    refine ⟨by (repeat (first | refine agree_upd rfl ?_ | exact agree_over | refine agree_sub rfl ?_ | exact agree_refl)), _, rfl, ?_, rfl⟩
    unfold bot
    rw [hp2, if_pos hc]
    exact .nil
  · intro hc
    repeat (first | refine q_then ?_ | refine wp_skip ?_)
    refine ⟨by (repeat (first | refine agree_upd rfl ?_ | exact agree_over | refine agree_sub rfl ?_ | exact agree_refl)), _, rfl, ?_, rfl⟩
    unfold bot
    rw [hp2, if_neg hc]
    exact hdv
  rintro u2 w7 ⟨dv2, h12, hdv2, rfl⟩
  refine wp_learn 1 h12 ?_
  repeat (first | refine r_load_blk rfl hg5 rfl ?_ | refine wp_seq_region ?_ | refine wp_region ?_ | refine r_field rfl ?_)
  refine r_call (signed_c (mkRat z d).num hmv hp1 ?_) rfl ?_
  · rw [hp3]
    exact ⟨fun h => ⟨h, by have := hp3.2 h; omega⟩, fun h => h.1⟩
  rintro v8 w8 ⟨k8, m8, rfl, h8⟩
  repeat (first | refine r_move (by conv => (lhs; whnf)) ?_)
  refine r_build3 (by conv => (lhs; whnf)) (by conv => (lhs; whnf)) hdv2.one ?_
  refine r_store3 rfl (by conv => (lhs; whnf)) (hg25.to k8) rfl rfl h8.one hdv2.one ?_
  intro w9 k9 hg9
  repeat (first | refine r_nil ?_ | refine q_then ?_ | refine wp_ret ?_)
  exact end1 rfl (resV_agg (by conv => (lhs; whnf)) hg9 rfl) ⟨Keeps.past (k5.trans k8) k9 (by omega), m8, dv2, rfl, h8.wrT k9 (hg25.to k8) (by decide), (hdv2.to k8).wrT k9 (hg25.to k8) (by decide)⟩
end Go.Proofs.YtpmnjjmngogkkaaGreatDoor
