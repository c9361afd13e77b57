/- The reference's integers: greatest divisors, quotients; fractions in lowest terms. -/
import Derived.Test.YtpmnjjmngogkkaaGreatDoorRef5
import Derived.Test.YtpmnjjmngogkkaaGreatDoorRef3
import Derived.Test.YtpmnjjmngogkkaaGreatDoorRat2
set_option linter.unusedVariables false
set_option linter.unusedSimpArgs false
namespace Go.Proofs.YtpmnjjmngogkkaaGreatDoor
open Go Go.RowKit

section rules
variable {P : Program} {n : Nat} {Q : Post} {ρ : Fr} {w : World} {all rest : List Oper} {d : Tmp} {ty : TypeId} {pos : String} {aft : Array Edge}
theorem ones4 {a b c e : Value} (h1 : a.oneCell' = true) (h2 : b.oneCell' = true) (h3 : c.oneCell' = true) (h4 : e.oneCell' = true) : ∀ v ∈ [a, b, c, e], v.oneCell' = true := fun v hv => by
  simp only [List.mem_cons, List.not_mem_nil, or_false] at hv
  rcases hv with rfl | rfl | rfl | rfl <;> assumption
theorem r_build22 {T : TypeId} {bb : Nat} {z0 z1 z2 z3 : Value} [ti : TyI P T 4 bb (.agg #[z0, z1, z2, z3]) true] [st : StcT P T [(0, 2), (2, 2)]]
    {x y : Operand} {a b c e : Value} (hx : ev ρ x = .agg #[a, b]) (hy : ev ρ y = .agg #[c, e])
    (h : WpR P n all Q rest (upd ρ d (.agg #[a, b, c, e])) w) : WpR P n all Q (⟨some d, .build T #[(0, x), (1, y)], ty, pos, aft, none⟩ :: rest) ρ w :=
  r_build (parts := [(0, x), (1, y)]) (zs := [z0, z1, z2, z3]) (cs := [a, b, c, e]) (vs := [(0, .agg #[a, b]), (1, .agg #[c, e])]) rfl (by rw [← hx, ← hy]; rfl)
    (fill_two rfl (by simp) (fill_two rfl (by simp) fill_nil)) h
theorem r_store4 {t : TypeId} {bb : Nat} {z : Value} {agg : Bool} [ti : TyI P t 4 bb z agg] {x y : Operand} {g : Nat} {T : TypeId} {a b c e : Value} {cs : List Value}
    (hx : ev ρ x = .pointer (some ⟨g, 0, none⟩)) (hy : ev ρ y = .agg #[a, b, c, e]) (hb : Blk w g T cs) (hl : cs.length = 4) (h1 : a.oneCell' = true) (h2 : b.oneCell' = true) (h3 : c.oneCell' = true) (h4 : e.oneCell' = true)
    (h : ∀ w', Wrt g w w' → Blk w' g T [a, b, c, e] → WpR P n all Q rest ρ w') : WpR P n all Q (⟨none, .store t x y, ty, pos, aft, none⟩ :: rest) ρ w :=
  r_store_all (us := [a, b, c, e]) hx hy rfl rfl hb hl (ones4 h1 h2 h3 h4) h
end rules

/-- v is the reference's fraction q. -/
def QV (S : Nat → Prop) (w : World) (v : Value) (q : Rat) : Prop :=
  ∃ m b, v = .agg #[.bool (tst (q.num < 0)), m, .bool (tst ((q.den : Int) < 0)), b] ∧ NatV S 3 .i64 w m q.num.natAbs ∧ NatV S 3 .i64 w b q.den
theorem QV.keep {S : Nat → Prop} {w w' : World} {v : Value} {q : Rat} (h : QV S w v q) (k : Keeps S w w') : QV S w' v q := let ⟨m, b, h1, h2, h3⟩ := h; ⟨m, b, h1, h2.keep k, h3.keep k⟩
theorem QV.to {S : Nat → Prop} {w w' : World} {v : Value} {q : Rat} (h : QV S w v q) (k : Ext w w') : QV S w' v q := h.keep (.of k)
theorem QV.mono {S S' : Nat → Prop} {w : World} {v : Value} {q : Rat} (h : QV S w v q) (hs : ∀ k, k < w.heap.size → S k → S' k) : QV S' w v q := let ⟨m, b, h1, h2, h3⟩ := h; ⟨m, b, h1, h2.mono hs, h3.mono hs⟩
theorem QV.past {S : Nat → Prop} {w w1 w2 : World} {v : Value} {q : Rat} {g : Nat} (h : QV S w v q) (k1 : Ext w w1) (k2 : Wrt g w1 w2) (hg : w.heap.size ≤ g) : QV S w2 v q := let ⟨m, b, h1, h2, h3⟩ := h; ⟨m, b, h1, h2.past k1 k2 hg, h3.past k1 k2 hg⟩
def qE (S : Nat → Prop) (q : Rat) : Ent := Ent.of (fun v w => QV S w v q) fun v w w' h kk => h.to kk

theorem zgcd_c {S : Nat → Prop} {w : World} {va vb : Value} {a b : Int} (hS : Up S w) (ha : ZV S w va a) (hb : ZV S w vb b) (hla : zl a ≤ 15999999999000) (hlb : zl b ≤ 15999999999000) :
    Gives Tryz.prog 33 [va, vb] w fun v' w' => Ext w w' ∧ ZV S w' v' (Int.gcd a b : Int) := by
  unfold zl at hla hlb
  have ha0 := ha
  have hb0 := hb
  obtain ⟨ma, rfl, hma⟩ := ha
  obtain ⟨mb, rfl, hmb⟩ := hb
  refine gives_of Tryz.func33 rfl rfl rfl ?_
  repeat (first | refine wp_seq_region ?_ | refine wp_region ?_)
  refine r_box (cs := [.bool (tst (a < 0)), ma]) (by conv => (lhs; whnf)) rfl ?_
  intro w1 ga k1 hga hgsa
  skip
  refine r_box (cs := [.bool (tst (b < 0)), mb]) (by conv => (lhs; whnf)) rfl ?_
  intro w2 gb k2 hgb hgsb
  replace hga := hga.to k2
  have k := k1.trans k2
  clear k1 k2
  skip
  have hsz := k.size
  refine r_alloc (cs := [.bool false, .slice none 0 0]) rfl ?_
  intro w3 g k3 hg hgs
  replace hga := hga.to k3
  replace hgb := hgb.to k3
  replace k := k.trans k3
  clear k3
  replace ha0 := ha0.to k
  replace hb0 := hb0.to k
  replace hma := hma.to k
  replace hmb := hmb.to k
  replace hS := hS.to k
  repeat (first | refine wp_seq_region ?_ | refine wp_region ?_ | refine r_nil ?_ | refine r_field rfl ?_)
  repeat (first | refine r_load_blk rfl hga rfl ?_ | refine r_load_blk rfl hgb rfl ?_ | refine r_field rfl ?_)
  refine r_call (gcdN_c hS hma hmb (by omega) (by omega)) rfl ?_
  rintro v4 w4 ⟨k4, h4⟩
  skip
  refine r_call (zInt0_c h4) rfl ?_
  rintro v5 w5 ⟨k5, m5, rfl, h5⟩
  have hg5 := hg.to (k4.trans k5)
  skip
  refine r_store2 rfl (by conv => (lhs; whnf)) hg5 rfl h5.one ?_
  intro w6 k6 hg6
  repeat (first | refine r_nil ?_ | refine q_then ?_ | refine wp_ret ?_)
  exact end1 rfl (resV_agg (by conv => (lhs; whnf)) hg6 rfl) ⟨Keeps.past ((k.trans k4).trans k5) k6 (by omega), m5, rfl, h5.wrT k6 hg5 (by decide)⟩

theorem quo_abs {b c : Int} (hb : b ≠ 0) : (b * c).natAbs / b.natAbs = c.natAbs := by
  rw [Int.natAbs_mul]
  exact Nat.mul_div_cancel_left _ (by omega)
theorem quo_sign {b c : Int} (hb : b ≠ 0) : c < 0 ↔ (¬ (b * c < 0 ↔ b < 0)) ∧ 0 < c.natAbs := by
  rcases Int.lt_trichotomy c 0 with h | h | h
  · rcases Int.lt_trichotomy b 0 with h1 | h1 | h1
    · have := Int.mul_pos_of_neg_of_neg h1 h
      constructor
      · intro _; exact ⟨fun x => by have := x.2 h1; omega, by omega⟩
      · intro _; exact h
    · exact absurd h1 hb
    · have := Int.mul_neg_of_pos_of_neg h1 h
      constructor
      · intro _; exact ⟨fun x => by have := x.1 this; omega, by omega⟩
      · intro _; exact h
  · subst h; simp
  · rcases Int.lt_trichotomy b 0 with h1 | h1 | h1
    · have := Int.mul_neg_of_neg_of_pos h1 h
      constructor
      · intro _; omega
      · rintro ⟨x, _⟩; exact absurd ⟨fun _ => h1, fun _ => this⟩ x
    · exact absurd h1 hb
    · have := Int.mul_pos h1 h
      constructor
      · intro _; omega
      · rintro ⟨x, _⟩; exact absurd ⟨fun y => by omega, fun y => by omega⟩ x
theorem zquo_c {S : Nat → Prop} {w : World} {va vb : Value} {a b : Int} (c : Int) (hS : Up S w) (ha : ZV S w va a) (hb : ZV S w vb b) (hla : zl a ≤ 15999999999000) (hlb : zl b ≤ 15999999999000) (hb0 : b ≠ 0) (hc : a = b * c) :
    Gives Tryz.prog 88 [va, vb] w fun v' w' => Ext w w' ∧ ZV S w' v' c := by
  subst hc
  unfold zl at hla hlb
  refine gives_of Tryz.func88 rfl rfl rfl ?_
  obtain ⟨ma, rfl, hma⟩ := ha
  obtain ⟨mb, rfl, hmb⟩ := hb
  repeat (first | refine wp_seq_region ?_ | refine wp_region ?_)
  refine r_box (cs := [.bool (tst (b * c < 0)), ma]) (by conv => (lhs; whnf)) rfl ?_
  intro w1 ga k1 hga hgsa
  skip
  refine r_box (cs := [.bool (tst (b < 0)), mb]) (by conv => (lhs; whnf)) rfl ?_
  intro w2 gb k2 hgb hgsb
  skip
  refine r_alloc (cs := [.bool false, .slice none 0 0]) rfl ?_
  intro w3 g k3 hg hgs
  replace hga := hga.to (k2.trans k3)
  replace hgb := hgb.to k3
  have k := (k1.trans k2).trans k3
  have hs := (k1.trans k2).size
  replace hma := hma.to k
  replace hmb := hmb.to k
  replace hS := hS.to k
  clear k1 k2 k3
  repeat (first | refine r_load_blk rfl hga rfl ?_ | refine r_load_blk rfl hgb rfl ?_ | refine wp_seq_region ?_ | refine wp_region ?_ | refine r_nil ?_ | refine r_field rfl ?_)
  refine r_call (divN_c hS hma hmb (by omega) (by omega) (by omega)) rfl ?_
  rintro v4 w4 ⟨vq, vr, rfl, k4, hq, hr⟩
  rw [quo_abs hb0] at hq
  replace hga := hga.to k4
  replace hgb := hgb.to k4
  repeat (first | refine r_load_blk rfl hga rfl ?_ | refine r_load_blk rfl hgb rfl ?_ | refine wp_seq_region ?_ | refine wp_region ?_ | refine r_move (by conv => (lhs; whnf)) ?_ | refine r_assign (by conv => (lhs; whnf)) ?_ | refine r_nil ?_ | refine r_extract rfl rfl ?_ | refine r_neqB rfl rfl ?_ | refine r_field rfl ?_)
  refine r_call (zInt_c c hq rfl (quo_sign hb0)) rfl ?_
  rintro v5 w5 ⟨k5, m5, rfl, h5⟩
  have hg5 := hg.to (k4.trans k5)
  skip
  refine r_store2 rfl (by conv => (lhs; whnf)) hg5 rfl h5.one ?_
  intro w6 k6 hg6
  repeat (first | refine r_nil ?_ | refine q_then ?_ | refine wp_ret ?_)
  exact end1 rfl (resV_agg (by conv => (lhs; whnf)) hg6 rfl) ⟨Keeps.past ((k.trans k4).trans k5) k6 (by omega), m5, rfl, h5.wrT k6 hg5 (by decide)⟩

theorem ratio_parts (a b : Int) (hb : b ≠ 0) : ∃ g c e : Int, g = (Int.gcd a b : Int) ∧ 0 < g ∧ a = g * c ∧ b = g * e ∧ e ≠ 0 ∧
    (b < 0 → (mkRat (a * b.sign) b.natAbs).num = -c ∧ ((mkRat (a * b.sign) b.natAbs).den : Int) = -e) ∧ (¬ b < 0 → (mkRat (a * b.sign) b.natAbs).num = c ∧ ((mkRat (a * b.sign) b.natAbs).den : Int) = e) := by
  obtain ⟨c, hc⟩ : (Int.gcd a b : Int) ∣ a := Int.gcd_dvd_left ..
  obtain ⟨e, he⟩ : (Int.gcd a b : Int) ∣ b := Int.gcd_dvd_right ..
  have hg : 0 < Int.gcd a b := Int.gcd_pos_of_ne_zero_right _ hb
  obtain ⟨_, h2, _, h4⟩ := mkRat_parts (a * b.sign) (d := b.natAbs) (by omega)
  have hn : (a * b.sign).natAbs = a.natAbs := mul_sgn_abs a b hb
  have hgg : Nat.gcd b.natAbs (a * b.sign).natAbs = Int.gcd a b := by rw [hn, Nat.gcd_comm]; rfl
  rw [hgg] at h2 h4
  generalize Int.gcd a b = g at *
  have he0 : e ≠ 0 := by rintro rfl; simp at he; exact hb he
  refine ⟨g, c, e, rfl, by omega, hc, he, he0, fun hneg => ?_, fun hneg => ?_⟩
  · rw [h4, h2, Int.sign_eq_neg_one_of_neg hneg]
    constructor
    · rw [hc, Int.mul_neg, Int.mul_one, ← Int.mul_neg]
      exact Int.mul_ediv_cancel_left _ (by omega)
    · have : b.natAbs = g * e.natAbs := by rw [he, Int.natAbs_mul, Int.natAbs_natCast]
      rw [this, Nat.mul_div_cancel_left _ hg]
      have : e < 0 := by
        rcases Int.lt_trichotomy e 0 with h | h | h
        · exact h
        · exact absurd h he0
        · have := Int.mul_pos (show (0 : Int) < g by omega) h; omega
      omega
  · have hp : 0 < b := by omega
    rw [h4, h2, Int.sign_eq_one_of_pos hp]
    constructor
    · rw [hc, Int.mul_one]
      exact Int.mul_ediv_cancel_left _ (by omega)
    · have : b.natAbs = g * e.natAbs := by rw [he, Int.natAbs_mul, Int.natAbs_natCast]
      rw [this, Nat.mul_div_cancel_left _ hg]
      have : 0 < e := by
        rcases Int.lt_trichotomy e 0 with h | h | h
        · have := Int.mul_neg_of_pos_of_neg (show (0 : Int) < g by omega) h; omega
        · exact absurd h he0
        · exact h
      omega

theorem zratio_c {S : Nat → Prop} {w : World} {va vb : Value} {a b : Int} (hS : Up S w) (ha : ZV S w va a) (hb : ZV S w vb b) (hla : zl a ≤ 15999999999000) (hlb : zl b ≤ 15999999999000) (hb0 : b ≠ 0) :
    Gives Tryz.prog 22 [va, vb] w fun v' w' => Ext w w' ∧ QV S w' v' (mkRat (a * b.sign) b.natAbs) := by
  obtain ⟨gi, c, e, hgi, hg0, hac, hbe, he0, hneg, hpos⟩ := ratio_parts a b hb0
  have hlg : zl gi ≤ 15999999999000 := by
    unfold zl at *
    rw [hgi]
    refine Nat.le_trans (dl_mono ?_) hlb
    exact Nat.gcd_le_right _ (by omega)
  generalize mkRat (a * b.sign) b.natAbs = q at *
  obtain ⟨ma, rfl, hma⟩ := ha
  obtain ⟨mb, rfl, hmb⟩ := hb
  refine gives_of Tryz.func22 rfl rfl rfl ?_
  repeat (first | refine wp_seq_region ?_ | refine wp_region ?_)
  refine r_box (cs := [.bool (tst (a < 0)), ma]) (by conv => (lhs; whnf)) rfl ?_
  intro w1 ga k1 hga hgsa
  skip
  refine r_box (cs := [.bool (tst (b < 0)), mb]) (by conv => (lhs; whnf)) rfl ?_
  intro w2 gb k2 hgb hgsb
  skip
  refine r_alloc (cs := [.bool false, .slice none 0 0, .bool false, .slice none 0 0]) rfl ?_
  intro w3 g k3 hg hgs
  replace hga := hga.to (k2.trans k3)
  replace hgb := hgb.to k3
  have k := (k1.trans k2).trans k3
  have hs := (k1.trans k2).size
  replace hma := hma.to k
  replace hmb := hmb.to k
  replace hS := hS.to k
  clear k1 k2 k3
  repeat (first | refine r_load_all rfl hga rfl ?_ | refine r_load_all rfl hgb rfl ?_ | refine wp_seq_region ?_ | refine wp_region ?_ | refine r_nil ?_)
  refine r_call (zgcd_c hS ⟨ma, rfl, hma⟩ ⟨mb, rfl, hmb⟩ hla hlb) rfl ?_
  rintro v4 w4 ⟨k4, m4, rfl, h4⟩
  rw [← hgi] at h4 ⊢
  skip
  refine r_alloc (cs := [.bool false, .slice none 0 0]) rfl ?_
  intro w5 g5 k5 hg5 hgs5
  have hgl := hg.lt
  have hgal := hga.lt
  have hgbl := hgb.lt
  have hk4 := k4.size
  have k45 := k4.trans k5
  refine r_store2 rfl (by conv => (lhs; whnf)) hg5 rfl h4.one ?_
  intro w6 k6 hg56
  replace hga := (hga.to k45).wr k6 (by omega)
  replace hgb := (hgb.to k45).wr k6 (by omega)
  replace hg := (hg.to k45).wr k6 (by omega)
  replace hma := (hma.to k45).wrT k6 hg5 (by decide)
  replace hmb := (hmb.to k45).wrT k6 hg5 (by decide)
  replace h4 := (h4.to k5).wrT k6 hg5 (by decide)
  have hks := k.size
  replace k : Ext w w6 := (k.trans k45).past k6 (by omega)
  replace hS : Up S w6 := fun i hi => hS i (by have := k45.size; have := k6.size; omega)
  replace hg5 := hg56
  clear hg56 k6 k45 k4 k5
  repeat (first | refine wp_seq_region ?_ | refine r_nil ?_)
  refine wp_drawn 8 (by kernel_rfl) (by kernel_rfl) ?_
  apply ob_step
  · intro x w1 k1 hd
    refine r_load_all rfl (hga.to k1) rfl ?_
    refine r_nil ?_
    exact ob_eq
  apply ob_step
  · intro x w1 k1 hd
    refine r_load_all rfl (hg5.to k1) rfl ?_
    refine r_nil ?_
    exact ob_eq
  refine ob_step (e := zE S c) ?_ ?_
  · intro x w1 k1 hd
    refine r_call (zquo_c c (hS.to k1) ⟨ma, rfl, hma.to k1⟩ ⟨m4, rfl, h4.to k1⟩ hla hlg (by omega) hac) rfl ?_
    rintro v2 w2 ⟨k2, h2⟩
    exact r_nil (ob_of k2 h2)
  apply ob_step
  · intro x w1 k1 hd
    refine r_load_all rfl (hgb.to k1) rfl ?_
    refine r_nil ?_
    exact ob_eq
  apply ob_step
  · intro x w1 k1 hd
    refine r_load_all rfl (hg5.to k1) rfl ?_
    refine r_nil ?_
    exact ob_eq
  refine ob_step (e := zE S e) ?_ ?_
  · intro x w1 k1 hd
    refine r_call (zquo_c e (hS.to k1) ⟨mb, rfl, hmb.to k1⟩ ⟨m4, rfl, h4.to k1⟩ hlb hlg (by omega) hbe) rfl ?_
    rintro v2 w2 ⟨k2, h2⟩
    exact r_nil (ob_of k2 h2)
  refine ob_step (e := Ent.new (w6.heap.size) 31 [.bool false, .slice none 0 0]) ?_ ?_
  · intro x w1 k1 hd
    refine r_alloc (cs := [.bool false, .slice none 0 0]) rfl ?_
    intro w2 g2 k2 hg2 hgs2
    exact r_nil (ob_new k2 hg2 hgs2 k1.size)
  refine ob_step (e := Ent.new (w6.heap.size) 31 [.bool false, .slice none 0 0]) ?_ ?_
  · intro x w1 k1 hd
    refine r_alloc (cs := [.bool false, .slice none 0 0]) rfl ?_
    intro w2 g2 k2 hg2 hgs2
    exact r_nil (ob_new k2 hg2 hgs2 k1.size)
  refine ob_nil (ob_endF ?_)
  intro x w7 k7 hall hdis
  obtain ⟨g7, hx7, hg7, hgb7⟩ : ∃ g, x 7 = .pointer (some ⟨g, 0, none⟩) ∧ Blk w7 g 31 [.bool false, .slice none 0 0] ∧ w6.heap.size ≤ g := hall.1
  obtain ⟨g6, hx6, hg6, hgb6⟩ : ∃ g, x 6 = .pointer (some ⟨g, 0, none⟩) ∧ Blk w7 g 31 [.bool false, .slice none 0 0] ∧ w6.heap.size ≤ g := hall.2.1
  have hne : x 7 ≠ x 6 := hdis.1.1
  obtain ⟨me, hxe, hme⟩ : ZV S w7 (x 5) e := hall.2.2.1
  obtain ⟨mc, hxc, hmc⟩ : ZV S w7 (x 2) c := hall.2.2.2.2.2.1
  have hne' : g7 ≠ g6 := by rintro rfl; exact hne (hx7.trans hx6.symm)
  refine r_learn 7 hx7 (r_learn 6 hx6 ?_)
  clear hne hdis hall
  have hg' := hg.to k7
  have hgl6 := hg.lt
  replace hS := hS.to k7
  replace k := k.trans k7
  clear k7 hga hgb hg5 hma hmb h4
  refine r_store2 rfl hxc hg6 rfl hmc.one ?_
  intro w8 k8 hg8
  replace hg7 := hg7.wr k8 (by omega)
  replace hmc := hmc.wrT k8 hg6 (by decide)
  replace hme := hme.wrT k8 hg6 (by decide)
  replace hg' := hg'.wr k8 (by omega)
  replace k := k.past k8 (by omega)
  replace hS : Up S w8 := fun i hi => hS i (by have := k8.size; omega)
  replace hg6 := hg8
  clear k8 hg8
  refine r_store2 rfl hxe hg7 rfl hme.one ?_
  intro w9 k9 hg9
  replace hg6 := hg6.wr k9 (by omega)
  replace hmc := hmc.wrT k9 hg7 (by decide)
  replace hme := hme.wrT k9 hg7 (by decide)
  replace hg' := hg'.wr k9 (by omega)
  replace k := k.past k9 (by omega)
  replace hS : Up S w9 := fun i hi => hS i (by have := k9.size; omega)
  replace hg7 := hg9
  clear k9 hg9
  have hbe2 : b < 0 ↔ e < 0 := by
    rcases Int.lt_trichotomy e 0 with h | h | h
    · have := Int.mul_neg_of_pos_of_neg hg0 h; omega
    · exact absurd h he0
    · have := Int.mul_pos hg0 h; omega
  repeat (first | refine r_load_blk rfl hg7 rfl ?_ | refine wp_seq_region ?_ | refine wp_seq_seq ?_ | refine wp_region ?_ | refine r_nil ?_ | refine q_then ?_ | refine r_field rfl ?_)
  first | refine wp_seq_block ?_ | refine wp_thenB ?_ | refine wp_thenBB ?_ | skip
  refine wp_mid [(19, 22)] (fun ρ w' => Ext w w' ∧ Blk w' g 45 [.bool false, .slice none 0 0, .bool false, .slice none 0 0] ∧ ∃ m b', Blk w' g6 31 [.bool (tst (q.num < 0)), m] ∧ Blk w' g7 31 [.bool (tst ((q.den : Int) < 0)), b'] ∧ NatV S 3 .i64 w' m q.num.natAbs ∧ NatV S 3 .i64 w' b' q.den) ?_ ?_
  · refine wp_cond_dec rfl ?_ ?_ <;> intro hcc
    · obtain ⟨hq1, hq2⟩ := hneg (hbe2.2 hcc)
      rw [hq1, hq2]
      have hqd : q.den = (-e).natAbs := by omega
      rw [hqd]
      skip
      refine wp_drawn 4 (by kernel_rfl) (by kernel_rfl) ?_
      apply ob_step
      · intro x w1 k1 hd
        refine r_load_all rfl (hg6.to k1) rfl ?_
        refine r_nil ?_
        exact ob_eq
      refine ob_step (e := zE S (-c)) ?_ ?_
      · intro x w1 k1 hd
        refine r_call (zneg_c ⟨mc, rfl, hmc.to k1⟩) rfl ?_
        rintro v2 w2 ⟨k2, h2⟩
        exact r_nil (ob_of k2 h2)
      apply ob_step
      · intro x w1 k1 hd
        refine r_load_all rfl (hg7.to k1) rfl ?_
        refine r_nil ?_
        exact ob_eq
      refine ob_step (e := zE S (-e)) ?_ ?_
      · intro x w1 k1 hd
        refine r_call (zneg_c ⟨me, rfl, hme.to k1⟩) rfl ?_
        rintro v2 w2 ⟨k2, h2⟩
        exact r_nil (ob_of k2 h2)
      refine ob_nil (ob_end ?_)
      intro x2 w10 k10 hall
      obtain ⟨m2, hx2, h2⟩ : ZV S w10 (x2 3) (-e) := hall.1
      obtain ⟨m1, hx1, h1⟩ : ZV S w10 (x2 1) (-c) := hall.2.2.1
      have hg60 := hg6.to k10
      have hg70 := hg7.to k10
      have hksz := k.size
      refine r_store2 rfl hx1 hg60 rfl h1.one ?_
      intro w11 k11 hg11
      have hg71 := hg70.wr k11 (by omega)
      refine r_store2 rfl hx2 hg71 rfl h2.one ?_
      intro w12 k12 hg12
      repeat (first | refine r_nil ?_ | refine q_then ?_)
      refine ⟨by (repeat (first | refine agree_upd rfl ?_ | exact agree_over | refine agree_sub rfl ?_ | exact agree_refl | refine agree_base rfl ?_ | refine agree_base' rfl ?_)), ((k.trans k10).past k11 (by omega)).past k12 (by omega), ((hg'.to k10).wr k11 (by omega)).wr k12 (by omega), m1, m2, hg11.wr k12 (by omega), hg12, (h1.wrT k11 hg60 (by decide)).wrT k12 hg71 (by decide), (h2.wrT k11 hg60 (by decide)).wrT k12 hg71 (by decide)⟩
    · obtain ⟨hq1, hq2⟩ := hpos (fun h => hcc (hbe2.1 h))
      rw [hq1, hq2]
      have hqd : q.den = e.natAbs := by omega
      rw [hqd]
      repeat (first | refine q_then ?_ | refine wp_skip ?_)
      exact ⟨by (repeat (first | refine agree_upd rfl ?_ | exact agree_over | refine agree_sub rfl ?_ | exact agree_refl | refine agree_base rfl ?_ | refine agree_base' rfl ?_)), k, hg', mc, me, hg6, hg7, hmc, hme⟩
  rintro u w10 ⟨k10, hg10, m, b', hg60, hg70, hm, hbb⟩
  repeat (first | refine r_load_all rfl hg60 rfl ?_ | refine r_load_all rfl hg70 rfl ?_ | refine wp_seq_region ?_ | refine wp_region ?_)
  refine r_build22 (by conv => (lhs; whnf)) (by conv => (lhs; whnf)) ?_
  skip
  refine r_store4 rfl (by conv => (lhs; whnf)) hg10 rfl rfl hm.one rfl hbb.one ?_
  intro w11 k11 hg11
  repeat (first | refine r_nil ?_ | refine q_then ?_ | refine wp_ret ?_)
  exact end1 rfl (resV_agg (by conv => (lhs; whnf)) hg11 rfl) ⟨k10.past k11 (by omega), m, b', rfl, hm.wrT k11 hg10 (by decide), hbb.wrT k11 hg10 (by decide)⟩
end Go.Proofs.YtpmnjjmngogkkaaGreatDoor
