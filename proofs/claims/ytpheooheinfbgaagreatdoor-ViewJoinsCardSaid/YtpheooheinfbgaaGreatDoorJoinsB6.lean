/- The statement ViewJoins, proved: for every slice of points the law returns true and leaves it as it was; the listed tables of the library hold what the program's text lays (the given tie). -/
import Derived.Test.YtpheooheinfbgaaGreatDoorJoinsB5
import Derived.Test.YtpheooheinfbgaaGreatDoorJoinsB2
import Derived.Test.YtpheooheinfbgaaGreatDoorCards
import Derived.Test.YtpheooheinfbgaaGreatDoorTie
import Derived.ProofKit
import Derived.LaidMore
import Derived.OpenShut
import Derived.Stop.Joined
import Derived.SevenTiedAt
import Derived.Lay
import Derived.Carry
section
set_option linter.unusedVariables false
set_option linter.unusedSimpArgs false
namespace Go.Proofs.YtpheooheinfbgaaGreatDoor
open Go Go.RowKit
abbrev ttripG (v : Value) (t : T3) : Gh := ⟨fun S w => v = .tuple #[tupN v 0, .int .i64 0] ∧ (trixG (tupN v 0) t).p S w, fun h k => ⟨h.1, (trixG _ t).keep h.2 k⟩, fun h k => ⟨h.1, (trixG _ t).mono h.2 k⟩⟩
theorem ttripG_ok {v : Value} {t : T3} {S : Nat → Prop} {w : World} (h : (ttripG v t).p S w) : (SV.tup [(true, [.ag 3 (cel (tupN v 0) 0 3), .ag 3 (cel (tupN v 0) 3 3), .ag 3 (cel (tupN v 0) 6 3)]), (false, [.lit .i64 0])]).Ok 0 ∧ (SV.tup [(true, [.ag 3 (cel (tupN v 0) 0 3), .ag 3 (cel (tupN v 0) 3 3), .ag 3 (cel (tupN v 0) 6 3)]), (false, [.lit .i64 0])]).den (fun _ => 0) = v := by
  refine ⟨fun p hp c hc => ?_, ?_⟩
  · simp only [List.mem_cons, List.not_mem_nil, or_false] at hp
    rcases hp with rfl | rfl
    · exact (trixG_ok h.2).1 c hc
    · simp only [List.mem_cons, List.not_mem_nil, or_false] at hc
      subst hc
      trivial
  · conv => rhs; rw [h.1, h.2.1]
    rfl
theorem ttrip_of {v : Value} {t : T3} {S : Nat → Prop} {w : World} (h : (ttryG v t 0).p S w) : (ttripG v t).p S w := ⟨h.1, trix h.2⟩
abbrev rt3G (v : Value) (q : Rat) : Gh := ⟨fun S w => v = .tuple #[tupN v 0, .bool false, .int .i64 0] ∧ RatV S w (tupN v 0) q, fun h k => ⟨h.1, h.2.keep k⟩, fun h k => ⟨h.1, h.2.mono k⟩⟩
theorem rt3G_ok {v : Value} {q : Rat} {S : Nat → Prop} {w : World} (h : (rt3G v q).p S w) : (SV.tup [(true, [.ag 3 (tupN v 0)]), (false, [.bb false]), (false, [.lit .i64 0])]).Ok 0 ∧ (SV.tup [(true, [.ag 3 (tupN v 0)]), (false, [.bb false]), (false, [.lit .i64 0])]).den (fun _ => 0) = v := by
  refine ⟨fun p hp c hc => ?_, ?_⟩
  · simp only [List.mem_cons, List.not_mem_nil, or_false] at hp
    rcases hp with rfl | rfl | rfl <;> (simp only [List.mem_cons, List.not_mem_nil, or_false] at hc; subst hc)
    · exact h.2.okc
    · trivial
    · trivial
  · conv => rhs; rw [h.1]
    obtain ⟨m, b, hv, _⟩ := h.2
    rw [hv]
    rfl
theorem none_list {t : T3} : NoneL t.list ↔ t.None := by
  unfold NoneL T3.None T3.list
  simp only [List.mem_cons, List.not_mem_nil, or_false, not_exists, not_and, Classical.not_not, forall_eq_or_imp, forall_eq]
theorem long_few {q : Rat} {k : Nat} (h : rl q k) (hk : k ≤ 4) : ¬ LongR q := by
  have h2 := nDigits_le_dl q.num.natAbs (show dl q.num.natAbs ≤ k from h.1)
  have h3 := nDigits_le_dl q.den (show dl q.den ≤ k from h.2)
  unfold LongR
  omega
theorem bad_few {t : T3} {k : Nat} (h : tl t k) (hk : k ≤ 4) (hn : ¬ t.None) : badE t = 0 := by
  unfold badE
  rw [if_neg (fun e => hn (none_list.1 e)), if_neg]
  rintro ⟨x, hx, hl⟩
  exact long_few (rl_list h x hx) hk hl
def P1 : T3 := ⟨1, 0, 0⟩
def P2 : T3 := ⟨0, 2, 0⟩
def P3 : T3 := ⟨1, 1, 0⟩
def P4 : T3 := ⟨1, 2, 0⟩
theorem rl_dec {q : Rat} (h1 : q.num.natAbs < 1000000000) (h2 : q.den < 1000000000) : rl q 1 := ⟨dl_le (k := 1) (by omega), dl_le (k := 1) (by omega)⟩
theorem tl_P1 : tl P1 1 := ⟨rl_dec (by decide) (by decide), rl_dec (by decide) (by decide), rl_dec (by decide) (by decide)⟩
theorem tl_P2 : tl P2 1 := ⟨rl_dec (by decide) (by decide), rl_dec (by decide) (by decide), rl_dec (by decide) (by decide)⟩
theorem tl_P3 : tl P3 1 := ⟨rl_dec (by decide) (by decide), rl_dec (by decide) (by decide), rl_dec (by decide) (by decide)⟩
theorem tl_P4 : tl P4 1 := ⟨rl_dec (by decide) (by decide), rl_dec (by decide) (by decide), rl_dec (by decide) (by decide)⟩
theorem bad_P1 : badE P1 = 0 := bad_few tl_P1 (by decide) (by decide +kernel)
theorem bad_P2 : badE P2 = 0 := bad_few tl_P2 (by decide) (by decide +kernel)
theorem bad_P3 : badE P3 = 0 := bad_few tl_P3 (by decide) (by decide +kernel)
theorem bad_P4 : badE P4 = 0 := bad_few tl_P4 (by decide) (by decide +kernel)
theorem same_12 : ¬ T3.Same P1 P2 := by decide +kernel
theorem same_13 : ¬ T3.Same P1 P3 := by decide +kernel
theorem same_23 : ¬ T3.Same P2 P3 := by decide +kernel
theorem flat_123 : T3.Flat P1 P2 P3 := by decide +kernel
theorem flat_124 : T3.Flat P1 P2 P4 := by decide +kernel
theorem line_12 : (P1.cross P2).normal = ⟨0, 0, 1⟩ := by
  have h : (P1.cross P2).normal.x = 0 ∧ (P1.cross P2).normal.y = 0 ∧ (P1.cross P2).normal.z = 1 := by decide +kernel
  exact T3.ext h.1 h.2.1 h.2.2
def L1 : T3 := ⟨0, 0, 1⟩
theorem tl_L1 : tl L1 1 := ⟨rl_dec (by decide) (by decide), rl_dec (by decide) (by decide), rl_dec (by decide) (by decide)⟩
theorem bad_L1 : badE L1 = 0 := bad_few tl_L1 (by decide) (by decide +kernel)
theorem bad_12 : bad2 P1 P2 = 0 := by unfold bad2; rw [if_pos bad_P1, bad_P2]
theorem joinE_12 : joinE P1 P2 = 0 := by unfold joinE; rw [if_pos bad_12, if_neg same_12]
theorem joinT_12 : joinT P1 P2 = L1 := by unfold joinT; rw [if_pos joinE_12, line_12]; rfl
theorem bad_1L : bad2 P1 L1 = 0 := by unfold bad2; rw [if_pos bad_P1, bad_L1]
theorem on_1L : OnP P1 L1 := ⟨bad_1L, by decide +kernel⟩
theorem mP : T3.mPart P1 P2 P3 ≠ 0 := by decide +kernel
theorem nP : ¬ T3.nPart P1 P2 P4 = 0 := by decide +kernel
theorem rat_half : T3.ratioQ P1 P2 P3 P4 = 1 / 2 := by decide +kernel
theorem half_str' : rstr (1 / 2 : Rat) = [49, 47, 50] := by
  have h1 : (1 / 2 : Rat).num = 1 := by decide +kernel
  have h2 : (1 / 2 : Rat).den = 2 := by decide +kernel
  unfold rstr Lib.itoa
  rw [h1, h2, if_neg (by decide), if_neg (by decide), show (1 : Int).toNat = 1 from rfl, Lib.decDigits_one (by decide), Lib.decDigits_one (by decide)]
  rfl
theorem one_str : rstr (1 : Rat) = [49] := by
  have h1 : (1 : Rat).num = 1 := rfl
  have h2 : (1 : Rat).den = 1 := rfl
  unfold rstr Lib.itoa
  rw [h1, h2, if_neg (by decide), if_pos rfl, show (1 : Int).toNat = 1 from rfl, Lib.decDigits_one (by decide)]
  rfl
theorem q_one {S : Nat → Prop} {w : World} (hS : Up S w) : Gives Tryz.prog 23 [.int .i64 1, .int .i64 1] w fun v' w' => Ext w w' ∧ QV S w' v' (1 : Rat) := zint_q (a := 1) hS (by decide) (by decide)
theorem q_two {S : Nat → Prop} {w : World} (hS : Up S w) : Gives Tryz.prog 23 [.int .i64 2, .int .i64 1] w fun v' w' => Ext w w' ∧ QV S w' v' (2 : Rat) := zint_q (a := 2) hS (by decide) (by decide)
set_option maxRecDepth 100000 in
set_option maxHeartbeats 2000000 in
theorem vawake_c {w : World} (ht : Tab w) : Gives Tryz.prog 11 [] w fun v' w' => v' = .bool true ∧ Ext w w' := by
  have hS : Up All w := Up.all
  refine t_gives (E := env) (S0 := All) (G := Gh.nil) (l := []) Tryz.func11 rfl rfl rfl trivial rfl trivial ?_
  refine s_1 (fun x0 => .one (.ag 4 x0)) (fun x0 => qG x0 ((1 : Rat))) ⟨env_ok, hS, noLent⟩ (by kernel_rfl) (by kernel_rfl) (fun _ _ _ h => ⟨h.ok, rfl⟩) (fun β S w hS hs hw hG => ⟨_, (by kernel_rfl), q_one hS⟩) ?_
  intro v1
  refine s_1 (fun x0 => .one (.ag 4 x0)) (fun x0 => qG x0 ((0 : Rat))) ⟨env_ok, hS, noLent⟩ (by kernel_rfl) (by kernel_rfl) (fun _ _ _ h => ⟨h.ok, rfl⟩) (fun β S w hS hs hw hG => ⟨_, (by kernel_rfl), zq_0 hS⟩) ?_
  intro v2
  refine s_1 (fun x0 => .one (.ag 4 x0)) (fun x0 => qG x0 ((0 : Rat))) ⟨env_ok, hS, noLent⟩ (by kernel_rfl) (by kernel_rfl) (fun _ _ _ h => ⟨h.ok, rfl⟩) (fun β S w hS hs hw hG => ⟨_, (by kernel_rfl), zq_0 hS⟩) ?_
  intro v3
  refine s_1 (fun x0 => .one (.ag 9 x0)) (fun x0 => triG x0 (P1)) ⟨env_ok, hS, noLent⟩ (by kernel_rfl) (by kernel_rfl) (fun _ _ _ h => ⟨h.ok, rfl⟩) (fun β S w hS hs hw hG => have a3 := hG.1; have a2 := hG.2.1; have a1 := hG.2.2.1; ⟨_, (by kernel_rfl), ltriple_c hS ⟨v1, v2, v3, rfl, a1, a2, a3⟩ tl_P1 (by decide)⟩) ?_
  intro p
  refine s_1 (fun x0 => .one (.ag 4 x0)) (fun x0 => qG x0 ((0 : Rat))) ⟨env_ok, hS, noLent⟩ (by kernel_rfl) (by kernel_rfl) (fun _ _ _ h => ⟨h.ok, rfl⟩) (fun β S w hS hs hw hG => ⟨_, (by kernel_rfl), zq_0 hS⟩) ?_
  intro v4
  refine s_1 (fun x0 => .one (.ag 4 x0)) (fun x0 => qG x0 ((2 : Rat))) ⟨env_ok, hS, noLent⟩ (by kernel_rfl) (by kernel_rfl) (fun _ _ _ h => ⟨h.ok, rfl⟩) (fun β S w hS hs hw hG => ⟨_, (by kernel_rfl), q_two hS⟩) ?_
  intro v5
  refine s_1 (fun x0 => .one (.ag 4 x0)) (fun x0 => qG x0 ((0 : Rat))) ⟨env_ok, hS, noLent⟩ (by kernel_rfl) (by kernel_rfl) (fun _ _ _ h => ⟨h.ok, rfl⟩) (fun β S w hS hs hw hG => ⟨_, (by kernel_rfl), zq_0 hS⟩) ?_
  intro v6
  refine s_1 (fun x0 => .one (.ag 9 x0)) (fun x0 => triG x0 (P2)) ⟨env_ok, hS, noLent⟩ (by kernel_rfl) (by kernel_rfl) (fun _ _ _ h => ⟨h.ok, rfl⟩) (fun β S w hS hs hw hG => have b3 := hG.1; have b2 := hG.2.1; have b1 := hG.2.2.1; ⟨_, (by kernel_rfl), ltriple_c hS ⟨v4, v5, v6, rfl, b1, b2, b3⟩ tl_P2 (by decide)⟩) ?_
  intro q
  refine s_1 (fun x0 => .tup [(true, [.ag 3 (cel (tupN x0 0) 0 3), .ag 3 (cel (tupN x0 0) 3 3), .ag 3 (cel (tupN x0 0) 6 3)]), (false, [.lit .i64 0])]) (fun x0 => ttripG x0 (L1)) ⟨env_ok, hS, noLent⟩ (by kernel_rfl) (by kernel_rfl) (fun _ _ _ h => ttripG_ok h) (fun β S w hS hs hw hG => have tq := hG.1; have tp := hG.2.2.2.2.1; ⟨_, (by kernel_rfl), (vJoin_c (k := 1) (ht.to hw) hS tp tq tl_P1 tl_P2 (by decide) (by rw [line_12]; exact tl_L1) (by decide)).mono fun v' w' h => ⟨h.1, ttrip_of (by have h2 := h.2; rw [joinE_12, joinT_12] at h2; exact h2)⟩⟩) ?_
  intro j
  refine s_K (pr (.bb true) (.lit .i64 0)) ⟨env_ok, hS, noLent⟩ (by kernel_rfl) (by kernel_rfl) (svB_ok rfl) rfl (fun β S w hS hs hw hG => have hj := hG.1; have tp := hG.2.2.2.2.2.1; ⟨_, (by kernel_rfl), gK (vOn_c (ht.to hw) hS tp ⟨_, _, _, rfl, hj.2.2.1, hj.2.2.2.1, hj.2.2.2.2⟩ tl_P1 tl_L1 (by decide)) (by rw [tst_true on_1L, bad_1L]; rfl)⟩) ?_
  refine s_drawn 20 ⟨env_ok, hS, noLent⟩ (by kernel_rfl) (by kernel_rfl) (by kernel_rfl) ?_
  refine hd_run 2 (fun η => (by kernel_rfl)) ?_
  refine h_1 (fun x0 => .one (.ag 4 x0)) (fun x0 => qG x0 ((1 : Rat))) (fun η => (by kernel_rfl)) (fun _ _ _ h => ⟨h.ok, rfl⟩) (fun β η S w hS hs hw hG hd => ⟨_, (by kernel_rfl), q_one hS⟩) ?_
  refine h_1 (fun x0 => .one (.ag 4 x0)) (fun x0 => qG x0 ((1 : Rat))) (fun η => (by kernel_rfl)) (fun _ _ _ h => ⟨h.ok, rfl⟩) (fun β η S w hS hs hw hG hd => ⟨_, (by kernel_rfl), q_one hS⟩) ?_
  refine h_1 (fun x0 => .one (.ag 4 x0)) (fun x0 => qG x0 ((0 : Rat))) (fun η => (by kernel_rfl)) (fun _ _ _ h => ⟨h.ok, rfl⟩) (fun β η S w hS hs hw hG hd => ⟨_, (by kernel_rfl), zq_0 hS⟩) ?_
  refine hd_fact (fun x0 => .one (.ag 12 x0)) (fun x0 => qtriG x0 (P3)) ⟨env_ok, hS, noLent⟩ (fun η => (by kernel_rfl)) (fun η => (by kernel_rfl)) (fun β η S w hS hM hs hw hG hd => have hF : (qtriG (tri4 (η 2) (η 3) (η 4)) (P3)).p S w := ⟨_, _, _, rfl, (dep hd 2 (by kernel_rfl) (by kernel_rfl) : (qG (η 2) ((1 : Rat))).p S w), (dep hd 3 (by kernel_rfl) (by kernel_rfl) : (qG (η 3) ((1 : Rat))).p S w), (dep hd 4 (by kernel_rfl) (by kernel_rfl) : (qG (η 4) ((0 : Rat))).p S w)⟩; have hK : ∀ (x0 : Value) (S : Nat → Prop) (w : World), (qtriG x0 (P3)).p S w → (.one (.ag 12 x0) : SV).Ok 0 ∧ (.one (.ag 12 x0) : SV).den (fun _ => 0) = x0 := (fun _ _ _ h => ⟨h.ok, rfl⟩); ⟨(tri4 (η 2) (η 3) (η 4)), (by kernel_rfl), (hK _ S w hF).2.symm, (hK _ S w hF).1, hF⟩) ?_
  refine h_1 (fun x0 => .one (.ag 9 x0)) (fun x0 => triG x0 (P3)) (fun η => (by kernel_rfl)) (fun _ _ _ h => ⟨h.ok, rfl⟩) (fun β η S w hS hs hw hG hd => ⟨_, (by kernel_rfl), ltriple_c hS (dep hd 5 (by kernel_rfl) (by kernel_rfl) : (qtriG (η 5) (P3)).p S w) tl_P3 (by decide)⟩) ?_
  refine h_1 (fun x0 => .one (.ag 4 x0)) (fun x0 => qG x0 ((1 : Rat))) (fun η => (by kernel_rfl)) (fun _ _ _ h => ⟨h.ok, rfl⟩) (fun β η S w hS hs hw hG hd => ⟨_, (by kernel_rfl), q_one hS⟩) ?_
  refine h_1 (fun x0 => .one (.ag 4 x0)) (fun x0 => qG x0 ((2 : Rat))) (fun η => (by kernel_rfl)) (fun _ _ _ h => ⟨h.ok, rfl⟩) (fun β η S w hS hs hw hG hd => ⟨_, (by kernel_rfl), q_two hS⟩) ?_
  refine h_1 (fun x0 => .one (.ag 4 x0)) (fun x0 => qG x0 ((0 : Rat))) (fun η => (by kernel_rfl)) (fun _ _ _ h => ⟨h.ok, rfl⟩) (fun β η S w hS hs hw hG hd => ⟨_, (by kernel_rfl), zq_0 hS⟩) ?_
  refine hd_fact (fun x0 => .one (.ag 12 x0)) (fun x0 => qtriG x0 (P4)) ⟨env_ok, hS, noLent⟩ (fun η => (by kernel_rfl)) (fun η => (by kernel_rfl)) (fun β η S w hS hM hs hw hG hd => have hF : (qtriG (tri4 (η 7) (η 8) (η 9)) (P4)).p S w := ⟨_, _, _, rfl, (dep hd 7 (by kernel_rfl) (by kernel_rfl) : (qG (η 7) ((1 : Rat))).p S w), (dep hd 8 (by kernel_rfl) (by kernel_rfl) : (qG (η 8) ((2 : Rat))).p S w), (dep hd 9 (by kernel_rfl) (by kernel_rfl) : (qG (η 9) ((0 : Rat))).p S w)⟩; have hK : ∀ (x0 : Value) (S : Nat → Prop) (w : World), (qtriG x0 (P4)).p S w → (.one (.ag 12 x0) : SV).Ok 0 ∧ (.one (.ag 12 x0) : SV).den (fun _ => 0) = x0 := (fun _ _ _ h => ⟨h.ok, rfl⟩); ⟨(tri4 (η 7) (η 8) (η 9)), (by kernel_rfl), (hK _ S w hF).2.symm, (hK _ S w hF).1, hF⟩) ?_
  refine h_1 (fun x0 => .one (.ag 9 x0)) (fun x0 => triG x0 (P4)) (fun η => (by kernel_rfl)) (fun _ _ _ h => ⟨h.ok, rfl⟩) (fun β η S w hS hs hw hG hd => ⟨_, (by kernel_rfl), ltriple_c hS (dep hd 10 (by kernel_rfl) (by kernel_rfl) : (qtriG (η 10) (P4)).p S w) tl_P4 (by decide)⟩) ?_
  refine h_1 (fun x0 => .tup [(true, [.ag 3 (tupN x0 0)]), (false, [.bb false]), (false, [.lit .i64 0])]) (fun x0 => rt3G x0 ((1 / 2 : Rat))) (fun η => (by kernel_rfl)) (fun _ _ _ h => rt3G_ok h) (fun β η S w hS hs hw hG hd => have tq := hG.2.1; have tp := hG.2.2.2.2.2.1; ⟨_, (by kernel_rfl), (vRatio_c (vparts_z (by decide +kernel) (by decide +kernel) (by decide +kernel)) (ht.to hw) hS tp tq (dep hd 6 (by kernel_rfl) (by kernel_rfl) : (triG (η 6) (P3)).p S w) (dep hd 11 (by kernel_rfl) (by kernel_rfl) : (triG (η 11) (P4)).p S w) tl_P1 tl_P2 tl_P3 tl_P4 (by decide) bad_P1 bad_P2 bad_P3 bad_P4 same_12 same_13 same_23 flat_123 flat_124 mP).mono fun v' w' h => ⟨h.1, let ⟨x, e, hx⟩ := h.2; ⟨by rw [e, tst_false nP]; rfl, by rw [e]; rw [rat_half] at hx; exact hx⟩⟩⟩) ?_
  refine hd_run 7 (fun η => (by kernel_rfl)) ?_
  refine hd_done (fun η => ((rt3G (η 12) ((1 / 2 : Rat))).and ((triG (η 11) (P4)).and ((qtriG (η 10) (P4)).and ((qG (η 9) ((0 : Rat))).and ((qG (η 8) ((2 : Rat))).and ((qG (η 7) ((1 : Rat))).and ((triG (η 6) (P3)).and ((qtriG (η 5) (P3)).and ((qG (η 4) ((0 : Rat))).and ((qG (η 3) ((1 : Rat))).and ((qG (η 2) ((1 : Rat))).and ((ttripG j (L1)).and ((triG q (P2)).and ((qG v6 ((0 : Rat))).and ((qG v5 ((2 : Rat))).and ((qG v4 ((0 : Rat))).and ((triG p (P1)).and ((qG v3 ((0 : Rat))).and ((qG v2 ((0 : Rat))).and ((qG v1 ((1 : Rat))).and (Gh.nil)))))))))))))))))))))) (by kernel_rfl) (fun η => (by kernel_rfl)) ?_
  intro η_1
  refine s_K (.one (.str [49])) ⟨env_ok, hS, noLent⟩ (by kernel_rfl) (by kernel_rfl) (svB_ok rfl) rfl (fun β S w hS hs hw hG => have hj := hG.2.2.2.2.2.2.2.2.2.2.2.1; ⟨_, (by kernel_rfl), gK (rstr_c (ht.to hw) hj.2.2.2.2 (rl_mono tl_L1.2.2 (by decide))) (congrArg strV one_str)⟩) ?_
  refine s_slot_yes (p := ([49] : List UInt8) = [49]) 68 ⟨env_ok, hS, noLent⟩ (by kernel_rfl) (by kernel_rfl) (rfl) ?_
  refine s_K (.one (.str [49, 47, 50])) ⟨env_ok, hS, noLent⟩ (by kernel_rfl) (by kernel_rfl) (svB_ok rfl) rfl (fun β S w hS hs hw hG => have hr := hG.1; ⟨_, (by kernel_rfl), gK (rstr_c (ht.to hw) hr.2 (rl_mono (rl_dec (by decide +kernel) (by decide +kernel)) (by decide))) (congrArg strV half_str')⟩) ?_
  refine s_slot_yes (p := ([49, 47, 50] : List UInt8) = [49, 47, 50]) 73 ⟨env_ok, hS, noLent⟩ (by kernel_rfl) (by kernel_rfl) (rfl) ?_
  exact s_ret (.bool true) ⟨env_ok, hS, noLent⟩ (by kernel_rfl) rfl (by kernel_rfl) (fun β => (by kernel_rfl)) (fun S w hs hw hG => ⟨rfl, hw⟩)
end Go.Proofs.YtpheooheinfbgaaGreatDoor
end
section
set_option linter.unusedVariables false
set_option linter.unusedSimpArgs false
namespace Go.Proofs.YtpheooheinfbgaaGreatDoor
open Go Go.RowKit
theorem six_at1 {S : Nat → Prop} {w : World} {u : Value} {a : Nat → Int} (h : (atG true 6 (fun x => sixF x a) u).p S w) : ∃ b k, u = .pointer (some ⟨b, k, none⟩) ∧ (atG false 1 (fun x => pureG (x = .int .i64 (a 1))) (.pointer (some ⟨b, k + (1 : Int).toNat * 1, none⟩))).p S w := by
  obtain ⟨x, h1, ⟨b, o, arr, T, fr, h2, h3, h4, h5, h6⟩, h7, h8⟩ := h
  subst h7
  have hl : (sixV a).cells.toList.length = 6 := rfl
  rw [hl] at h5 h6
  refine ⟨b, o, h2, .int .i64 (a 1), lies_one rfl, ⟨b, o + 1, arr, T, fr, rfl, h3, h4, by simp [Value.cells]; omega, ?_⟩, rfl⟩
  have e : ((arr.toList.drop o).take 6)[1]? = some (.int .i64 (a 1)) := by rw [h6]; rfl
  rw [List.getElem?_take, if_pos (by decide), List.getElem?_drop] at e
  simp only [Value.cells, List.length_cons, List.length_nil]
  rw [List.drop_eq_getElem_cons (by simp; omega)]
  rw [List.getElem?_eq_getElem (by simp; omega)] at e
  simp at e ⊢
  exact e
noncomputable def tOf (a : Nat → Int) : T3 := if IntKind.u64.wrap (a 1) % 50 = 7 then pointT a else tameT a
noncomputable def ptsOf (l : List (Nat → Int)) : List T3 := (l.take 14).map tOf
theorem tl_tOf {a : Nat → Int} (h : Six a) : tl (tOf a) 3 := by
  unfold tOf
  split
  · exact tl_point h
  · exact tl_tame a
theorem pts_at {l : List (Nat → Int)} {i : Nat} {a : Nat → Int} (h : l[i]? = some a) (hi : i < 14) : (ptsOf l)[i]? = some (tOf a) := by
  unfold ptsOf
  rw [List.getElem?_map, List.getElem?_take, if_pos hi, h]
  rfl
theorem take_snoc {α : Type} {l : List α} {i : Nat} {a : α} (h : l[i]? = some a) : l.take (i + 1) = l.take i ++ [a] := by
  rw [List.take_add_one, h]
  rfl
theorem check_two {l : List T3} (h : checkT (l.take 2) = 0) (h2 : 2 ≤ l.length) : badE (T3.at l 0) = 0 ∧ badE (T3.at l 1) = 0 := by
  match l, h2 with
  | a :: b :: r, _ =>
    have h3 := checkT_ok h
    exact ⟨h3 a (by simp), h3 b (by simp)⟩
set_option maxRecDepth 100000 in
set_option maxHeartbeats 8000000 in
theorem viewJoins_c {w : World} {v : Value} {l : List (Nat → Int)} (ht : Tab w) (h : ArgS All w v l) (h6 : ∀ a ∈ l, Six a) :
    Gives Tryz.prog 3 [v] w fun v' w' => v' = .bool true ∧ Ext w w' := by
  have hS : Up All w := Up.all
  have hlm := h.2.1
  unfold maxLen at hlm
  obtain ⟨pts, hpts⟩ : ∃ p, p = ptsOf l := ⟨_, rfl⟩
  have hplen : pts.length = min 14 l.length := by rw [hpts]; unfold ptsOf; rw [List.length_map, List.length_take]
  have htl : ∀ t ∈ pts, tl t 3 := by
    intro t ht
    rw [hpts] at ht
    obtain ⟨a, ha, rfl⟩ := List.mem_map.1 ht
    exact tl_tOf (h6 a (List.mem_of_mem_take ha))
  refine t_gives (E := env) (S0 := All) (G := (argG v l)) (l := [.one (.sl v l.length)]) Tryz.func3 rfl rfl rfl ⟨h.sl, trivial⟩ rfl h ?_
  refine t_nil (T := 32) (s := 12) ?_
  refine t_nil (T := 44) (s := 9) ?_
  refine s_midK (ι := Nat × (Value × List Value) × (Value × List Value)) 0 1 [(3, 6), (14, 50)] (fun i => [(3, .one (.sl i.2.1.1 i.1)), (4, .one (.sl i.2.2.1 i.1))]) (fun i => [(0, .row 32 12 i.2.1.1 i.1 (catV i.2.1.2)), (1, .row 44 9 i.2.2.1 i.1 (catV i.2.2.2))]) (fun i => ((elsG true 12 qtriF i.2.1.2 pts).and ((elsG true 9 triF i.2.2.2 pts).and (argG v l)))) (fun i => i.1 = pts.length) ⟨env_ok, hS, noLent⟩ (by kernel_rfl) (by kernel_rfl) (fun hso0 => ?_) (fun i hi => ?_)
  · refine s_loop (ι := Nat × (Value × List Value) × (Value × List Value)) [(3, 6), (14, 50)] (fun i => [(5, .one (.int .i64 (i.1 : Int))), (3, .one (.sl i.2.1.1 i.1)), (4, .one (.sl i.2.2.1 i.1))]) (fun i => [(0, .row 32 12 i.2.1.1 i.1 (catV i.2.1.2)), (1, .row 44 9 i.2.2.1 i.1 (catV i.2.2.2))]) (fun i => ((slG i.2.1.1 i.1).and ((slG i.2.2.1 i.1).and ((elsG true 12 qtriF i.2.1.2 (pts.take i.1)).and ((elsG true 9 triF i.2.2.2 (pts.take i.1)).and (argG v l)))))) (fun i => i.1 ≤ l.length ∧ i.1 ≤ 14) (fun i => l.length - i.1) ((0, (.slice none 0 0, []), (.slice none 0 0, []))) ⟨env_ok, hS, noLent⟩ (by kernel_rfl) (by kernel_rfl) (fun β => (by kernel_rfl)) (fun β => (by kernel_rfl)) (by kernel_rfl) (⟨Nat.zero_le _, Nat.zero_le _⟩) (fun S w hw hG => ⟨listOk ⟨trivial, ⟨none, 0, rfl, Nat.le_refl _⟩, ⟨none, 0, rfl, Nat.le_refl _⟩, trivial⟩, listOk2 ⟨trivial, trivial, trivial⟩⟩) (fun S w hw hG => ⟨⟨none, 0, rfl, Nat.le_refl _⟩, ⟨none, 0, rfl, Nat.le_refl _⟩, els_nil, els_nil, hG⟩) (fun hso i hi => ?_)
    refine s_slot (p := (i.1 : Int) < (l.length : Int)) 18 ⟨env_ok, hS, noLent⟩ (by kernel_rfl) (by kernel_rfl) (fun hlt => ?_) (fun hlt => ?_)
    · refine s_if (p := (i.1 : Int) < 14) ⟨env_ok, hS, noLent⟩ (by kernel_rfl) (by kernel_rfl) (by kernel_rfl) (fun h14 => ?_) (fun h14 => ?_)
      · have hlt' : i.1 < l.length := by omega
        have h14' : i.1 < 14 := by omega
        have hne : l ≠ [] := fun e => by rw [e] at hlt'; exact absurd hlt' (Nat.not_lt_zero _)
        obtain ⟨a, ha⟩ : ∃ a, l[i.1]? = some a := ⟨l[i.1], List.getElem?_eq_getElem hlt'⟩
        have hsix := h6 a (List.mem_of_getElem? ha)
        have hpa : pts[i.1]? = some (tOf a) := by rw [hpts]; exact pts_at ha h14'
        have hta : tl (tOf a) 3 := tl_tOf hsix
        have hw0 := wrap_u64_nn (a 1)
        refine s_go ⟨env_ok, hS, noLent⟩ (by kernel_rfl) (t_at v l.length (i.1 : Int) 35 6 (fun u0 => atG true 6 (fun x0 => sixF x0 (a)) u0) (by kernel_rfl) ⟨env_ok, hS, noLent⟩ (fun β S w hM hw hG => have h := hG.2.2.2.2; (h.2.2 hne).el rfl rfl ha) ?_)
        intro u_1
        refine s_go ⟨env_ok, hS, noLent⟩ (by kernel_rfl) (t_of u_1 35 6 true (fun x0 => .agg [.int .i64 ((a) 0), .int .i64 ((a) 1), .int .i64 ((a) 2), .int .i64 ((a) 3), .int .i64 ((a) 4), .int .i64 ((a) 5)]) (fun x0 => sixF x0 (a)) (by kernel_rfl) ⟨env_ok, hS, noLent⟩ (fun S w hw hG => hG.1) (fun _ _ _ h => sixF_ok h) ?_)
        intro x1
        refine s_1 (fun x0 => .one (.ag 12 x0)) (fun x0 => qtriG x0 ((tameT a))) ⟨env_ok, hS, noLent⟩ (by kernel_rfl) (by kernel_rfl) (fun _ _ _ h => ⟨h.ok, rfl⟩) (fun β S w hS hs hw hG => ⟨_, (by kernel_rfl), ltame_c hS⟩) ?_
        intro t1
        refine s_go ⟨env_ok, hS, noLent⟩ (by kernel_rfl) (t_at v l.length (i.1 : Int) 35 6 (fun u0 => atG true 6 (fun x0 => sixF x0 (a)) u0) (by kernel_rfl) ⟨env_ok, hS, noLent⟩ (fun β S w hM hw hG => have h := hG.2.2.2.2.2.2.2; (h.2.2 hne).el rfl rfl ha) ?_)
        intro u
        refine s_go ⟨env_ok, hS, noLent⟩ (by kernel_rfl) (t_atA u 6 1 1 (fun x0 => atG false 1 (fun x0 => pureG (x0 = .int .i64 (a 1))) x0) (by kernel_rfl) ⟨env_ok, hS, noLent⟩ (by decide) (by decide) (fun β S w hM hw hG => have ga := hG.1; six_at1 ga) ?_)
        intro u2
        refine s_go ⟨env_ok, hS, noLent⟩ (by kernel_rfl) (t_ofM u2 3 1 false (fun x0 => .one (.int .i64 ((a 1)))) (fun x0 => pureG (x0 = .int .i64 ((a 1)))) (by kernel_rfl) ⟨env_ok, hS, noLent⟩ (fun _ _ _ h => pure_ok h trivial rfl) (fun β S w hM hw hG => have gb := hG.1; let ⟨y, f1, f2, f3⟩ := gb; ⟨S, y, f1, f2, f3⟩) ?_)
        intro y1
        refine s_vc (ps := [0 ≤ IntKind.u64.wrap (a 1) ∧ (0 : Int) < 50]) ⟨env_ok, hS, noLent⟩ (by kernel_rfl) (by simp only [AllT, and_true]; exact ⟨hw0, by decide⟩) ?_
        refine s_if (p := IntKind.u64.wrap (a 1) % 50 = 7) ⟨env_ok, hS, noLent⟩ (by kernel_rfl) (by kernel_rfl) (by kernel_rfl) (fun h7 => ?_) (fun h7 => ?_)
        · have hto : tOf a = pointT a := by unfold tOf; rw [if_pos h7]
          rw [hto] at hpa hta
          refine s_go ⟨env_ok, hS, noLent⟩ (by kernel_rfl) (t_at v l.length (i.1 : Int) 35 6 (fun u0 => atG true 6 (fun x0 => sixF x0 (a)) u0) (by kernel_rfl) ⟨env_ok, hS, noLent⟩ (fun β S w hM hw hG => have h := hG.2.2.2.2.2.2.2.2.2.2; (h.2.2 hne).el rfl rfl ha) ?_)
          intro u_2
          refine s_go ⟨env_ok, hS, noLent⟩ (by kernel_rfl) (t_of u_2 35 6 true (fun x0 => .agg [.int .i64 ((a) 0), .int .i64 ((a) 1), .int .i64 ((a) 2), .int .i64 ((a) 3), .int .i64 ((a) 4), .int .i64 ((a) 5)]) (fun x0 => sixF x0 (a)) (by kernel_rfl) ⟨env_ok, hS, noLent⟩ (fun S w hw hG => hG.1) (fun _ _ _ h => sixF_ok h) ?_)
          intro x2
          refine s_1 (fun x0 => .one (.ag 12 x0)) (fun x0 => qtriG x0 ((pointT a))) ⟨env_ok, hS, noLent⟩ (by kernel_rfl) (by kernel_rfl) (fun _ _ _ h => ⟨h.ok, rfl⟩) (fun β S w hS hs hw hG => ⟨_, (by kernel_rfl), lpoint_c hS hsix⟩) ?_
          intro t2
          refine s_go ⟨env_ok, hS, noLent⟩ (by kernel_rfl) (t_app (cs := catV i.2.1.2) 0 i.2.1.1 i.1 (.win 3 0 1 1) 32 12 192 1 t2.cells.toList (by kernel_rfl) (by kernel_rfl) ⟨env_ok, hS, noLent⟩ (by decide) (by unfold maxLen; omega) (by omega) (fun β S w hM hw hG => have g2 := hG.1; win_row 3 32 hM (by kernel_rfl) g2.ok) ?_)
          intro v1
          refine s_go ⟨env_ok, hS, noLent⟩ (by kernel_rfl) (t_hrow 0 32 12 (i.1 + 1) v1 (catV i.2.1.2 ++ t2.cells.toList) (catV (i.2.1.2 ++ [t2])) (by kernel_rfl) (fun S w hw hG => catV_snoc _ _) ?_)
          refine s_go ⟨env_ok, hS, noLent⟩ (by kernel_rfl) (t_know (slG v1 (i.1 + 1)) (fun β S w hM hw hG => own_slice (row_mem (b := 0) (T := 32) (s := 12) (cs := catV (i.2.1.2 ++ [t2])) (by kernel_rfl) hM)) ?_)
          refine s_1 (fun x0 => .one (.ag 9 x0)) (fun x0 => triG x0 ((pointT a))) ⟨env_ok, hS, noLent⟩ (by kernel_rfl) (by kernel_rfl) (fun _ _ _ h => ⟨h.ok, rfl⟩) (fun β S w hS hs hw hG => have g2 := hG.2.1; ⟨_, (by kernel_rfl), ltriple_c hS g2 hta (by decide)⟩) ?_
          intro z1
          refine s_go ⟨env_ok, hS, noLent⟩ (by kernel_rfl) (t_app (cs := catV i.2.2.2) 1 i.2.2.1 i.1 (.win 4 0 1 1) 44 9 168 1 z1.cells.toList (by kernel_rfl) (by kernel_rfl) ⟨env_ok, hS, noLent⟩ (by decide) (by unfold maxLen; omega) (by omega) (fun β S w hM hw hG => have r1 := hG.1; win_row 4 44 hM (by kernel_rfl) r1.ok) ?_)
          intro v2
          refine s_vc (ps := [InR .i64 ((i.1 : Int) + 1)]) ⟨env_ok, hS, noLent⟩ (by kernel_rfl) (by simp only [AllT, InR, and_true]; omega) ?_
          refine s_go ⟨env_ok, hS, noLent⟩ (by kernel_rfl) (t_hrow 1 44 9 (i.1 + 1) v2 (catV i.2.2.2 ++ z1.cells.toList) (catV (i.2.2.2 ++ [z1])) (by kernel_rfl) (fun S w hw hG => catV_snoc _ _) ?_)
          refine s_go ⟨env_ok, hS, noLent⟩ (by kernel_rfl) (t_know (slG v2 (i.1 + 1)) (fun β S w hM hw hG => own_slice (row_mem (b := 1) (T := 44) (s := 9) (cs := catV (i.2.2.2 ++ [z1])) (by kernel_rfl) hM)) ?_)
          exact s_again ((i.1 + 1, (v1, i.2.1.2 ++ [t2]), (v2, i.2.2.2 ++ [z1]))) ⟨env_ok, hS, noLent⟩ hso (by kernel_rfl) (by kernel_rfl) (fun β => (by kernel_rfl)) (fun β => (by kernel_rfl)) (by kernel_rfl) (⟨by simp only; omega, by simp only; omega⟩) (by simp only; omega) (fun S w hw hG => have p2 := hG.1; have r1 := hG.2.1; have p1 := hG.2.2.1; have g2 := hG.2.2.2.1; have hq := hG.2.2.2.2.2.2.2.2.2.2.2.2.2.2.1; have hx := hG.2.2.2.2.2.2.2.2.2.2.2.2.2.2.2.1; ⟨listOk ⟨trivial, p1, p2, trivial⟩, listOk2 ⟨trivial, trivial, trivial⟩⟩) (fun S w hw hG => have p2 := hG.1; have r1 := hG.2.1; have p1 := hG.2.2.1; have g2 := hG.2.2.2.1; have hq := hG.2.2.2.2.2.2.2.2.2.2.2.2.2.2.1; have hx := hG.2.2.2.2.2.2.2.2.2.2.2.2.2.2.2.1; ⟨p1, p2, (by simp only; rw [take_snoc hpa]; exact hq.snoc g2.lies g2), (by simp only; rw [take_snoc hpa]; exact hx.snoc r1.lies r1), hG.2.2.2.2.2.2.2.2.2.2.2.2.2.2.2.2⟩)
        · have hto : tOf a = tameT a := by unfold tOf; rw [if_neg h7]
          rw [hto] at hpa hta
          refine s_go ⟨env_ok, hS, noLent⟩ (by kernel_rfl) (t_app (cs := catV i.2.1.2) 0 i.2.1.1 i.1 (.win 3 0 1 1) 32 12 192 1 t1.cells.toList (by kernel_rfl) (by kernel_rfl) ⟨env_ok, hS, noLent⟩ (by decide) (by unfold maxLen; omega) (by omega) (fun β S w hM hw hG => have g1 := hG.2.2.2.1; win_row 3 32 hM (by kernel_rfl) g1.ok) ?_)
          intro v1
          refine s_go ⟨env_ok, hS, noLent⟩ (by kernel_rfl) (t_hrow 0 32 12 (i.1 + 1) v1 (catV i.2.1.2 ++ t1.cells.toList) (catV (i.2.1.2 ++ [t1])) (by kernel_rfl) (fun S w hw hG => catV_snoc _ _) ?_)
          refine s_go ⟨env_ok, hS, noLent⟩ (by kernel_rfl) (t_know (slG v1 (i.1 + 1)) (fun β S w hM hw hG => own_slice (row_mem (b := 0) (T := 32) (s := 12) (cs := catV (i.2.1.2 ++ [t1])) (by kernel_rfl) hM)) ?_)
          refine s_1 (fun x0 => .one (.ag 9 x0)) (fun x0 => triG x0 ((tameT a))) ⟨env_ok, hS, noLent⟩ (by kernel_rfl) (by kernel_rfl) (fun _ _ _ h => ⟨h.ok, rfl⟩) (fun β S w hS hs hw hG => have g1 := hG.2.2.2.2.1; ⟨_, (by kernel_rfl), ltriple_c hS g1 hta (by decide)⟩) ?_
          intro z1
          refine s_go ⟨env_ok, hS, noLent⟩ (by kernel_rfl) (t_app (cs := catV i.2.2.2) 1 i.2.2.1 i.1 (.win 4 0 1 1) 44 9 168 1 z1.cells.toList (by kernel_rfl) (by kernel_rfl) ⟨env_ok, hS, noLent⟩ (by decide) (by unfold maxLen; omega) (by omega) (fun β S w hM hw hG => have r1 := hG.1; win_row 4 44 hM (by kernel_rfl) r1.ok) ?_)
          intro v2
          refine s_vc (ps := [InR .i64 ((i.1 : Int) + 1)]) ⟨env_ok, hS, noLent⟩ (by kernel_rfl) (by simp only [AllT, InR, and_true]; omega) ?_
          refine s_go ⟨env_ok, hS, noLent⟩ (by kernel_rfl) (t_hrow 1 44 9 (i.1 + 1) v2 (catV i.2.2.2 ++ z1.cells.toList) (catV (i.2.2.2 ++ [z1])) (by kernel_rfl) (fun S w hw hG => catV_snoc _ _) ?_)
          refine s_go ⟨env_ok, hS, noLent⟩ (by kernel_rfl) (t_know (slG v2 (i.1 + 1)) (fun β S w hM hw hG => own_slice (row_mem (b := 1) (T := 44) (s := 9) (cs := catV (i.2.2.2 ++ [z1])) (by kernel_rfl) hM)) ?_)
          exact s_again ((i.1 + 1, (v1, i.2.1.2 ++ [t1]), (v2, i.2.2.2 ++ [z1]))) ⟨env_ok, hS, noLent⟩ hso (by kernel_rfl) (by kernel_rfl) (fun β => (by kernel_rfl)) (fun β => (by kernel_rfl)) (by kernel_rfl) (⟨by simp only; omega, by simp only; omega⟩) (by simp only; omega) (fun S w hw hG => have p2 := hG.1; have r1 := hG.2.1; have p1 := hG.2.2.1; have g1 := hG.2.2.2.2.2.2.1; have hq := hG.2.2.2.2.2.2.2.2.2.2.2.1; have hx := hG.2.2.2.2.2.2.2.2.2.2.2.2.1; ⟨listOk ⟨trivial, p1, p2, trivial⟩, listOk2 ⟨trivial, trivial, trivial⟩⟩) (fun S w hw hG => have p2 := hG.1; have r1 := hG.2.1; have p1 := hG.2.2.1; have g1 := hG.2.2.2.2.2.2.1; have hq := hG.2.2.2.2.2.2.2.2.2.2.2.1; have hx := hG.2.2.2.2.2.2.2.2.2.2.2.2.1; ⟨p1, p2, (by simp only; rw [take_snoc hpa]; exact hq.snoc g1.lies g1), (by simp only; rw [take_snoc hpa]; exact hx.snoc r1.lies r1), hG.2.2.2.2.2.2.2.2.2.2.2.2.2⟩)
      · refine s_out ⟨env_ok, hS, noLent⟩ (by kernel_rfl) (by kernel_rfl) ?_
        exact s_join (i) ⟨env_ok, hS, noLent⟩ hso0 (by kernel_rfl) (by kernel_rfl) (fun β => (by kernel_rfl)) (fun β => (by kernel_rfl)) (by kernel_rfl) (by rw [hplen]; omega) (fun S w hw hG => have s1 := hG.1; have s2 := hG.2.1; have hq := hG.2.2.1; have hx := hG.2.2.2.1; ⟨listOk ⟨s1, s2, trivial⟩, listOk2 ⟨trivial, trivial, trivial⟩⟩) (fun S w hw hG => have s1 := hG.1; have s2 := hG.2.1; have hq := hG.2.2.1; have hx := hG.2.2.2.1; ⟨(by rw [List.take_of_length_le (by rw [hplen]; omega)] at hq; exact hq), (by rw [List.take_of_length_le (by rw [hplen]; omega)] at hx; exact hx), hG.2.2.2.2⟩)
    · refine s_out ⟨env_ok, hS, noLent⟩ (by kernel_rfl) (by kernel_rfl) ?_
      exact s_join (i) ⟨env_ok, hS, noLent⟩ hso0 (by kernel_rfl) (by kernel_rfl) (fun β => (by kernel_rfl)) (fun β => (by kernel_rfl)) (by kernel_rfl) (by rw [hplen]; omega) (fun S w hw hG => have s1 := hG.1; have s2 := hG.2.1; have hq := hG.2.2.1; have hx := hG.2.2.2.1; ⟨listOk ⟨s1, s2, trivial⟩, listOk2 ⟨trivial, trivial, trivial⟩⟩) (fun S w hw hG => have s1 := hG.1; have s2 := hG.2.1; have hq := hG.2.2.1; have hx := hG.2.2.2.1; ⟨(by rw [List.take_of_length_le (by rw [hplen]; omega)] at hq; exact hq), (by rw [List.take_of_length_le (by rw [hplen]; omega)] at hx; exact hx), hG.2.2.2.2⟩)
  refine s_go ⟨env_ok, hS, noLent⟩ (by kernel_rfl) (t_give 0 32 12 i.1 i.2.1.1 (catV i.2.1.2) (by kernel_rfl) ⟨env_ok, hS, noLent⟩  ?_)
  refine s_go ⟨env_ok, hS, noLent⟩ (by kernel_rfl) (t_give 1 44 9 i.1 i.2.2.1 (catV i.2.2.2) (by kernel_rfl) ⟨env_ok, hS, noLent⟩  ?_)
  refine s_go ⟨env_ok, hS, noLent⟩ (by kernel_rfl) (t_know (qtrisG i.2.1.1 pts) (fun β S w hM hw hG => have w1 := hG.2.1; have hq := hG.2.2.1; hq.ofRow w1 hi) ?_)
  refine s_go ⟨env_ok, hS, noLent⟩ (by kernel_rfl) (t_know (trisG i.2.2.1 pts) (fun β S w hM hw hG => have w2 := hG.2.1; have hx := hG.2.2.2.2.1; hx.ofRow w2 hi) ?_)
  refine s_midK (ι := Unit) 3 3 [(2, 2), (7, 9), (51, 80)] (fun _ => []) (fun _ => []) (fun _ => ((trisG i.2.2.1 pts).and ((qtrisG i.2.1.1 pts).and ((rowG 44 9 i.2.2.1 i.1 (catV i.2.2.2)).and ((rowG 32 12 i.2.1.1 i.1 (catV i.2.1.2)).and ((elsG true 12 qtriF i.2.1.2 pts).and ((elsG true 9 triF i.2.2.2 pts).and (argG v l)))))))) (fun _ => True) ⟨env_ok, hS, noLent⟩ (by kernel_rfl) (by kernel_rfl) (fun hso => ?_) (fun _ _ => ?_)
  · by_cases h12 : 12 < i.1
    · refine s_K (pr (.bb false) (.lit .i64 1)) ⟨env_ok, hS, noLent⟩ (by kernel_rfl) (by kernel_rfl) (svB_ok rfl) rfl (fun β S w hS hs hw hG => have sx := hG.1; ⟨_, (by kernel_rfl), gK (vGeneral_c (ht.to hw) hS sx htl (by decide)) (by rw [if_pos (by omega)]; rfl)⟩) ?_
      refine s_K (.one (.int .i64 (checkT pts))) ⟨env_ok, hS, noLent⟩ (by kernel_rfl) (by kernel_rfl) (svB_ok rfl) rfl (fun β S w hS hs hw hG => have sq := hG.2.1; have h := hG.2.2.2.2.2.2; ⟨_, (by kernel_rfl), rCheck_c hS sq (fun t h => tl_up (htl t h) (by decide))⟩) ?_
      refine s_yes (p := (12 : Int) < (i.1 : Int)) ⟨env_ok, hS, noLent⟩ (by kernel_rfl) (by kernel_rfl) (by kernel_rfl) (by omega) ?_
      exact s_join () ⟨env_ok, hS, noLent⟩ hso (by kernel_rfl) (by kernel_rfl) (fun β => (by kernel_rfl)) (fun β => (by kernel_rfl)) (by kernel_rfl) trivial (fun S w hw hG => ⟨ov_free rfl, fun p hp => by cases hp⟩) (fun S w hw hG => hG)
    · refine s_K (pr (.tp (GenQ pts)) (.int .i64 (checkT pts))) ⟨env_ok, hS, noLent⟩ (by kernel_rfl) (by kernel_rfl) (svB_ok rfl) rfl (fun β S w hS hs hw hG => have sx := hG.1; ⟨_, (by kernel_rfl), gK (vGeneral_c (ht.to hw) hS sx htl (by decide)) (by rw [if_neg (by omega)]; rfl)⟩) ?_
      refine s_K (.one (.int .i64 (checkT pts))) ⟨env_ok, hS, noLent⟩ (by kernel_rfl) (by kernel_rfl) (svB_ok rfl) rfl (fun β S w hS hs hw hG => have sq := hG.2.1; have h := hG.2.2.2.2.2.2; ⟨_, (by kernel_rfl), rCheck_c hS sq (fun t h => tl_up (htl t h) (by decide))⟩) ?_
      refine s_no (p := (12 : Int) < (i.1 : Int)) ⟨env_ok, hS, noLent⟩ (by kernel_rfl) (by kernel_rfl) (by kernel_rfl) (by omega) ?_
      refine s_slot_no (p := ¬ checkT pts = checkT pts) 64 ⟨env_ok, hS, noLent⟩ (by kernel_rfl) (by kernel_rfl) (fun h => h rfl) ?_
      by_cases hc : checkT pts = 0
      · refine s_slot_no (p := ¬ checkT pts = 0) 67 ⟨env_ok, hS, noLent⟩ (by kernel_rfl) (by kernel_rfl) (fun h => h hc) ?_
        refine s_slot_yes (p := checkT pts = 0) 74 ⟨env_ok, hS, noLent⟩ (by kernel_rfl) (by kernel_rfl) (hc) ?_
        refine s_K (.one (.tp (GenP pts))) ⟨env_ok, hS, noLent⟩ (by kernel_rfl) (by kernel_rfl) (svB_ok rfl) rfl (fun β S w hS hs hw hG => have sq := hG.2.1; ⟨_, (by kernel_rfl), rgeneral_c hS sq htl (by decide)⟩) ?_
        refine s_no (p := ¬ (GenQ pts ↔ GenP pts)) ⟨env_ok, hS, noLent⟩ (by kernel_rfl) (by kernel_rfl) (by kernel_rfl) (fun h => h ⟨fun e => e.2, fun e => ⟨hc, e⟩⟩) ?_
        exact s_join () ⟨env_ok, hS, noLent⟩ hso (by kernel_rfl) (by kernel_rfl) (fun β => (by kernel_rfl)) (fun β => (by kernel_rfl)) (by kernel_rfl) trivial (fun S w hw hG => ⟨ov_free rfl, fun p hp => by cases hp⟩) (fun S w hw hG => hG)
      · refine s_slot_yes (p := ¬ checkT pts = 0) 67 ⟨env_ok, hS, noLent⟩ (by kernel_rfl) (by kernel_rfl) (hc) ?_
        refine s_slot_no (p := GenQ pts) 71 ⟨env_ok, hS, noLent⟩ (by kernel_rfl) (by kernel_rfl) (fun e => hc e.1) ?_
        refine s_slot_no (p := checkT pts = 0) 74 ⟨env_ok, hS, noLent⟩ (by kernel_rfl) (by kernel_rfl) (hc) ?_
        exact s_join () ⟨env_ok, hS, noLent⟩ hso (by kernel_rfl) (by kernel_rfl) (fun β => (by kernel_rfl)) (fun β => (by kernel_rfl)) (by kernel_rfl) trivial (fun S w hw hG => ⟨ov_free rfl, fun p hp => by cases hp⟩) (fun S w hw hG => hG)
  by_cases h2 : i.1 < 2
  · refine s_slot_yes (p := (i.1 : Int) < 2) 84 ⟨env_ok, hS, noLent⟩ (by kernel_rfl) (by kernel_rfl) (by omega) ?_
    refine s_K (.one (.bb true)) ⟨env_ok, hS, noLent⟩ (by kernel_rfl) (by kernel_rfl) (svB_ok rfl) rfl (fun β S w hS hs hw hG => ⟨_, (by kernel_rfl), vawake_c (ht.to hw)⟩) ?_
    exact s_ret (.bool true) ⟨env_ok, hS, noLent⟩ (by kernel_rfl) rfl (by kernel_rfl) (fun β => (by kernel_rfl)) (fun S w hs hw hG => ⟨rfl, hw⟩)
  · refine s_slot_no (p := (i.1 : Int) < 2) 84 ⟨env_ok, hS, noLent⟩ (by kernel_rfl) (by kernel_rfl) (by omega) ?_
    refine s_go ⟨env_ok, hS, noLent⟩ (by kernel_rfl) (t_win i.2.1.1 i.1 0 2 32 12 0 2 (catV i.2.1.2) (by kernel_rfl) ⟨env_ok, hS, noLent⟩ rfl rfl (by decide) (by omega) (fun S w hw hG => have w1 := hG.2.2.2.1; w1) ?_)
    intro v3
    refine s_go ⟨env_ok, hS, noLent⟩ (by kernel_rfl) (t_know (qtrisG v3 (pts.take 2)) (fun β S w hM hw hG => have w3 := hG.1; have hq := hG.2.2.2.2.2.1; (hq.take 2).ofRow (T := 32) (n := 2) (by rw [← catV_take hq.lies 2]; exact w3) (by rw [List.length_take]; omega)) ?_)
    refine s_K (.one (.int .i64 (checkT (pts.take 2)))) ⟨env_ok, hS, noLent⟩ (by kernel_rfl) (by kernel_rfl) (svB_ok rfl) rfl (fun β S w hS hs hw hG => have sw := hG.1; have h := hG.2.2.2.2.2.2.2.2; ⟨_, (by kernel_rfl), rCheck_c hS sw (fun t h => tl_up (htl t (List.mem_of_mem_take h)) (by decide))⟩) ?_
    by_cases hc2 : checkT (pts.take 2) = 0
    · refine s_no (p := ¬ checkT (pts.take 2) = 0) ⟨env_ok, hS, noLent⟩ (by kernel_rfl) (by kernel_rfl) (by kernel_rfl) (fun h => h hc2) ?_
      have l0 : 0 < pts.length := by omega
      have l1 : 1 < pts.length := by omega
      obtain ⟨e0, e1⟩ := check_two hc2 (by omega)
      have k0 : tl (T3.at pts 0) 3 := htl _ (List.mem_of_getElem? (T3.at_get l0))
      have k1 : tl (T3.at pts 1) 3 := htl _ (List.mem_of_getElem? (T3.at_get l1))
      have b2 : bad2 (T3.at pts 0) (T3.at pts 1) = 0 := by unfold bad2; rw [if_pos e0, e1]
      have kn : tl ((T3.at pts 0).cross (T3.at pts 1)).normal 39 := tl_normal (il_of_tl (tl_cross k0 k1)) (by decide)
      have hon : OnP (T3.at pts 0) (T3.at pts 1) = ((T3.at pts 0).dot (T3.at pts 1) = 0) := propext ⟨fun e => e.2, fun e => ⟨b2, e⟩⟩
      refine s_drawn 11 ⟨env_ok, hS, noLent⟩ (by kernel_rfl) (by kernel_rfl) (by kernel_rfl) ?_
      refine hd_run 1 (fun η => (by kernel_rfl)) ?_
      refine hd_atM (fun η => i.2.2.1) i.1 (0 : Int) 44 9 (fun u0 => pureG (u0 = .pointer (some (adr i.2.2.1 (Int.toNat (0 : Int) * 9))))) (fun η => (by kernel_rfl)) (fun η => (by kernel_rfl)) ⟨env_ok, hS, noLent⟩ (fun β η S w hM hw hG hd => have sx := hG.2.2.1; ⟨by omega, by omega, (by rw [hi]; exact tri_row sx), rfl⟩) ?_
      refine hd_ofM (fun η => η 1) 44 9 true (fun x0 => .one (.ag 9 x0)) (fun x0 => triG x0 ((T3.at pts 0))) (fun η => (by kernel_rfl)) (fun η => (by kernel_rfl)) ⟨env_ok, hS, noLent⟩ (fun _ _ _ h => ⟨h.ok, rfl⟩) (fun β η S w hM hw hG hd => have sx := hG.2.2.1; tri_el (i := 0) sx l0 (dep hd 1 (by kernel_rfl) (by kernel_rfl) : (pureG ((η 1) = .pointer (some (adr i.2.2.1 (Int.toNat (0 : Int) * 9))))).p S w)) ?_
      refine hd_run 1 (fun η => (by kernel_rfl)) ?_
      refine hd_atM (fun η => i.2.2.1) i.1 (1 : Int) 44 9 (fun u0 => pureG (u0 = .pointer (some (adr i.2.2.1 (Int.toNat (1 : Int) * 9))))) (fun η => (by kernel_rfl)) (fun η => (by kernel_rfl)) ⟨env_ok, hS, noLent⟩ (fun β η S w hM hw hG hd => have sx := hG.2.2.1; ⟨by omega, by omega, (by rw [hi]; exact tri_row sx), rfl⟩) ?_
      refine hd_ofM (fun η => η 4) 44 9 true (fun x0 => .one (.ag 9 x0)) (fun x0 => triG x0 ((T3.at pts 1))) (fun η => (by kernel_rfl)) (fun η => (by kernel_rfl)) ⟨env_ok, hS, noLent⟩ (fun _ _ _ h => ⟨h.ok, rfl⟩) (fun β η S w hM hw hG hd => have sx := hG.2.2.1; tri_el (i := 1) sx l1 (dep hd 4 (by kernel_rfl) (by kernel_rfl) : (pureG ((η 4) = .pointer (some (adr i.2.2.1 (Int.toNat (1 : Int) * 9))))).p S w)) ?_
      refine h_K (pr (.tp ((T3.at pts 0).dot (T3.at pts 1) = 0)) (.lit .i64 0)) (fun η => (by kernel_rfl)) (svB_ok rfl) rfl (fun β η S w hS hs hw hG hd => ⟨_, (by kernel_rfl), gK (vOn_c (ht.to hw) hS (dep hd 2 (by kernel_rfl) (by kernel_rfl) : (triG (η 2) ((T3.at pts 0))).p S w) (dep hd 5 (by kernel_rfl) (by kernel_rfl) : (triG (η 5) ((T3.at pts 1))).p S w) k0 k1 (by decide)) (by rw [b2, hon]; rfl)⟩) ?_
      refine hd_run 4 (fun η => (by kernel_rfl)) ?_
      refine hd_done (fun η => ((Gh.nil).and ((triG (η 5) ((T3.at pts 1))).and ((pureG ((η 4) = .pointer (some (adr i.2.2.1 (Int.toNat (1 : Int) * 9))))).and ((triG (η 2) ((T3.at pts 0))).and ((pureG ((η 1) = .pointer (some (adr i.2.2.1 (Int.toNat (0 : Int) * 9))))).and ((qtrisG v3 (pts.take 2)).and ((rowG 32 12 v3 (2 - 0) (((catV i.2.1.2).drop (0 * 12)).take ((2 - 0) * 12))).and ((trisG i.2.2.1 pts).and ((qtrisG i.2.1.1 pts).and ((rowG 44 9 i.2.2.1 i.1 (catV i.2.2.2)).and ((rowG 32 12 i.2.1.1 i.1 (catV i.2.1.2)).and ((elsG true 12 qtriF i.2.1.2 pts).and ((elsG true 9 triF i.2.2.2 pts).and (argG v l))))))))))))))) (by kernel_rfl) (fun η => (by kernel_rfl)) ?_
      intro η_1
      by_cases hsm : T3.Same (T3.at pts 0) (T3.at pts 1)
      · have je : joinE (T3.at pts 0) (T3.at pts 1) = 61 := by unfold joinE; rw [if_pos b2, if_pos hsm]
        have jt : joinT (T3.at pts 0) (T3.at pts 1) = ⟨0, 0, 0⟩ := by unfold joinT; rw [if_neg (by rw [je]; decide)]
        refine s_drawn 12 ⟨env_ok, hS, noLent⟩ (by kernel_rfl) (by kernel_rfl) (by kernel_rfl) ?_
        refine hd_run 1 (fun η => (by kernel_rfl)) ?_
        refine hd_atM (fun η => i.2.2.1) i.1 (0 : Int) 44 9 (fun u0 => pureG (u0 = .pointer (some (adr i.2.2.1 (Int.toNat (0 : Int) * 9))))) (fun η => (by kernel_rfl)) (fun η => (by kernel_rfl)) ⟨env_ok, hS, noLent⟩ (fun β η S w hM hw hG hd => have sx := hG.2.2.2.2.2.2.2.1; ⟨by omega, by omega, (by rw [hi]; exact tri_row sx), rfl⟩) ?_
        refine hd_ofM (fun η => η 1) 44 9 true (fun x0 => .one (.ag 9 x0)) (fun x0 => triG x0 ((T3.at pts 0))) (fun η => (by kernel_rfl)) (fun η => (by kernel_rfl)) ⟨env_ok, hS, noLent⟩ (fun _ _ _ h => ⟨h.ok, rfl⟩) (fun β η S w hM hw hG hd => have sx := hG.2.2.2.2.2.2.2.1; tri_el (i := 0) sx l0 (dep hd 1 (by kernel_rfl) (by kernel_rfl) : (pureG ((η 1) = .pointer (some (adr i.2.2.1 (Int.toNat (0 : Int) * 9))))).p S w)) ?_
        refine hd_run 1 (fun η => (by kernel_rfl)) ?_
        refine hd_atM (fun η => i.2.2.1) i.1 (1 : Int) 44 9 (fun u0 => pureG (u0 = .pointer (some (adr i.2.2.1 (Int.toNat (1 : Int) * 9))))) (fun η => (by kernel_rfl)) (fun η => (by kernel_rfl)) ⟨env_ok, hS, noLent⟩ (fun β η S w hM hw hG hd => have sx := hG.2.2.2.2.2.2.2.1; ⟨by omega, by omega, (by rw [hi]; exact tri_row sx), rfl⟩) ?_
        refine hd_ofM (fun η => η 4) 44 9 true (fun x0 => .one (.ag 9 x0)) (fun x0 => triG x0 ((T3.at pts 1))) (fun η => (by kernel_rfl)) (fun η => (by kernel_rfl)) ⟨env_ok, hS, noLent⟩ (fun _ _ _ h => ⟨h.ok, rfl⟩) (fun β η S w hM hw hG hd => have sx := hG.2.2.2.2.2.2.2.1; tri_el (i := 1) sx l1 (dep hd 4 (by kernel_rfl) (by kernel_rfl) : (pureG ((η 4) = .pointer (some (adr i.2.2.1 (Int.toNat (1 : Int) * 9))))).p S w)) ?_
        refine h_1 (fun x0 => pr (.ag 9 (tupAt x0)) (.int .i64 ((61)))) (fun x0 => ttryG x0 ((⟨0, 0, 0⟩ : T3)) ((61))) (fun η => (by kernel_rfl)) (fun _ _ _ h => ttryG_ok h) (fun β η S w hS hs hw hG hd => have h := hG.2.2.2.2.2.2.2.2.2.2.2.2.2; ⟨_, (by kernel_rfl), (vJoin_c (ht.to hw) hS (dep hd 2 (by kernel_rfl) (by kernel_rfl) : (triG (η 2) ((T3.at pts 0))).p S w) (dep hd 5 (by kernel_rfl) (by kernel_rfl) : (triG (η 5) ((T3.at pts 1))).p S w) k0 k1 (by decide) kn (by decide)).mono fun v' w' h => ⟨h.1, by have h2 := h.2; rw [je, jt] at h2; exact h2⟩⟩) ?_
        refine hd_run 5 (fun η => (by kernel_rfl)) ?_
        refine hd_done (fun η => ((ttryG (η 6) ((⟨0, 0, 0⟩ : T3)) ((61))).and ((triG (η 5) ((T3.at pts 1))).and ((pureG ((η 4) = .pointer (some (adr i.2.2.1 (Int.toNat (1 : Int) * 9))))).and ((triG (η 2) ((T3.at pts 0))).and ((pureG ((η 1) = .pointer (some (adr i.2.2.1 (Int.toNat (0 : Int) * 9))))).and ((Gh.nil).and ((triG (η_1 5) ((T3.at pts 1))).and ((pureG ((η_1 4) = .pointer (some (adr i.2.2.1 (Int.toNat (1 : Int) * 9))))).and ((triG (η_1 2) ((T3.at pts 0))).and ((pureG ((η_1 1) = .pointer (some (adr i.2.2.1 (Int.toNat (0 : Int) * 9))))).and ((qtrisG v3 (pts.take 2)).and ((rowG 32 12 v3 (2 - 0) (((catV i.2.1.2).drop (0 * 12)).take ((2 - 0) * 12))).and ((trisG i.2.2.1 pts).and ((qtrisG i.2.1.1 pts).and ((rowG 44 9 i.2.2.1 i.1 (catV i.2.2.2)).and ((rowG 32 12 i.2.1.1 i.1 (catV i.2.1.2)).and ((elsG true 12 qtriF i.2.1.2 pts).and ((elsG true 9 triF i.2.2.2 pts).and (argG v l)))))))))))))))))))) (by kernel_rfl) (fun η => (by kernel_rfl)) ?_
        intro η_2
        refine s_drawn 12 ⟨env_ok, hS, noLent⟩ (by kernel_rfl) (by kernel_rfl) (by kernel_rfl) ?_
        refine hd_run 5 (fun η => (by kernel_rfl)) ?_
        refine hd_atM (fun η => i.2.1.1) i.1 (0 : Int) 32 12 (fun u0 => pureG (u0 = .pointer (some (adr i.2.1.1 (Int.toNat (0 : Int) * 12))))) (fun η => (by kernel_rfl)) (fun η => (by kernel_rfl)) ⟨env_ok, hS, noLent⟩ (fun β η S w hM hw hG hd => have sq := hG.2.2.2.2.2.2.2.2.2.2.2.2.2.1; ⟨by omega, by omega, (by rw [hi]; exact qtri_row sq), rfl⟩) ?_
        refine hd_ofM (fun η => η 5) 32 12 true (fun x0 => .one (.ag 12 x0)) (fun x0 => qtriG x0 ((T3.at pts 0))) (fun η => (by kernel_rfl)) (fun η => (by kernel_rfl)) ⟨env_ok, hS, noLent⟩ (fun _ _ _ h => ⟨h.ok, rfl⟩) (fun β η S w hM hw hG hd => have sq := hG.2.2.2.2.2.2.2.2.2.2.2.2.2.1; qtri_el (i := 0) sq l0 (dep hd 5 (by kernel_rfl) (by kernel_rfl) : (pureG ((η 5) = .pointer (some (adr i.2.1.1 (Int.toNat (0 : Int) * 12))))).p S w)) ?_
        refine hd_run 1 (fun η => (by kernel_rfl)) ?_
        refine hd_atM (fun η => i.2.1.1) i.1 (1 : Int) 32 12 (fun u0 => pureG (u0 = .pointer (some (adr i.2.1.1 (Int.toNat (1 : Int) * 12))))) (fun η => (by kernel_rfl)) (fun η => (by kernel_rfl)) ⟨env_ok, hS, noLent⟩ (fun β η S w hM hw hG hd => have sq := hG.2.2.2.2.2.2.2.2.2.2.2.2.2.1; ⟨by omega, by omega, (by rw [hi]; exact qtri_row sq), rfl⟩) ?_
        refine hd_ofM (fun η => η 8) 32 12 true (fun x0 => .one (.ag 12 x0)) (fun x0 => qtriG x0 ((T3.at pts 1))) (fun η => (by kernel_rfl)) (fun η => (by kernel_rfl)) ⟨env_ok, hS, noLent⟩ (fun _ _ _ h => ⟨h.ok, rfl⟩) (fun β η S w hM hw hG hd => have sq := hG.2.2.2.2.2.2.2.2.2.2.2.2.2.1; qtri_el (i := 1) sq l1 (dep hd 8 (by kernel_rfl) (by kernel_rfl) : (pureG ((η 8) = .pointer (some (adr i.2.1.1 (Int.toNat (1 : Int) * 12))))).p S w)) ?_
        refine h_K (.one (.tp ((T3.at pts 0).dot (T3.at pts 1) = 0))) (fun η => (by kernel_rfl)) (svB_ok rfl) rfl (fun β η S w hS hs hw hG hd => ⟨_, (by kernel_rfl), ron_c hS (dep hd 6 (by kernel_rfl) (by kernel_rfl) : (qtriG (η 6) ((T3.at pts 0))).p S w) (dep hd 9 (by kernel_rfl) (by kernel_rfl) : (qtriG (η 9) ((T3.at pts 1))).p S w) k0 k1 (by decide)⟩) ?_
        refine hd_tst (p := ¬ ((T3.at pts 0).dot (T3.at pts 1) = 0 ↔ (T3.at pts 0).dot (T3.at pts 1) = 0)) false (fun η => (by kernel_rfl)) (fun η => (by kernel_rfl)) (fun η => (by kernel_rfl)) ⟨fun h => absurd h (fun h => h Iff.rfl), fun h => by cases h⟩ ?_
        refine hd_done (fun η => ((Gh.nil).and ((qtriG (η 9) ((T3.at pts 1))).and ((pureG ((η 8) = .pointer (some (adr i.2.1.1 (Int.toNat (1 : Int) * 12))))).and ((qtriG (η 6) ((T3.at pts 0))).and ((pureG ((η 5) = .pointer (some (adr i.2.1.1 (Int.toNat (0 : Int) * 12))))).and ((ttryG (η_2 6) ((⟨0, 0, 0⟩ : T3)) ((61))).and ((triG (η_2 5) ((T3.at pts 1))).and ((pureG ((η_2 4) = .pointer (some (adr i.2.2.1 (Int.toNat (1 : Int) * 9))))).and ((triG (η_2 2) ((T3.at pts 0))).and ((pureG ((η_2 1) = .pointer (some (adr i.2.2.1 (Int.toNat (0 : Int) * 9))))).and ((Gh.nil).and ((triG (η_1 5) ((T3.at pts 1))).and ((pureG ((η_1 4) = .pointer (some (adr i.2.2.1 (Int.toNat (1 : Int) * 9))))).and ((triG (η_1 2) ((T3.at pts 0))).and ((pureG ((η_1 1) = .pointer (some (adr i.2.2.1 (Int.toNat (0 : Int) * 9))))).and ((qtrisG v3 (pts.take 2)).and ((rowG 32 12 v3 (2 - 0) (((catV i.2.1.2).drop (0 * 12)).take ((2 - 0) * 12))).and ((trisG i.2.2.1 pts).and ((qtrisG i.2.1.1 pts).and ((rowG 44 9 i.2.2.1 i.1 (catV i.2.2.2)).and ((rowG 32 12 i.2.1.1 i.1 (catV i.2.1.2)).and ((elsG true 12 qtriF i.2.1.2 pts).and ((elsG true 9 triF i.2.2.2 pts).and (argG v l))))))))))))))))))))))))) (by kernel_rfl) (fun η => (by kernel_rfl)) ?_
        intro η_3
        refine s_drawn 6 ⟨env_ok, hS, noLent⟩ (by kernel_rfl) (by kernel_rfl) (by kernel_rfl) ?_
        refine hd_run 1 (fun η => (by kernel_rfl)) ?_
        refine hd_atM (fun η => i.2.1.1) i.1 (0 : Int) 32 12 (fun u0 => pureG (u0 = .pointer (some (adr i.2.1.1 (Int.toNat (0 : Int) * 12))))) (fun η => (by kernel_rfl)) (fun η => (by kernel_rfl)) ⟨env_ok, hS, noLent⟩ (fun β η S w hM hw hG hd => have sq := hG.2.2.2.2.2.2.2.2.2.2.2.2.2.2.2.2.2.2.1; ⟨by omega, by omega, (by rw [hi]; exact qtri_row sq), rfl⟩) ?_
        refine hd_ofM (fun η => η 1) 32 12 true (fun x0 => .one (.ag 12 x0)) (fun x0 => qtriG x0 ((T3.at pts 0))) (fun η => (by kernel_rfl)) (fun η => (by kernel_rfl)) ⟨env_ok, hS, noLent⟩ (fun _ _ _ h => ⟨h.ok, rfl⟩) (fun β η S w hM hw hG hd => have sq := hG.2.2.2.2.2.2.2.2.2.2.2.2.2.2.2.2.2.2.1; qtri_el (i := 0) sq l0 (dep hd 1 (by kernel_rfl) (by kernel_rfl) : (pureG ((η 1) = .pointer (some (adr i.2.1.1 (Int.toNat (0 : Int) * 12))))).p S w)) ?_
        refine hd_run 1 (fun η => (by kernel_rfl)) ?_
        refine hd_atM (fun η => i.2.1.1) i.1 (1 : Int) 32 12 (fun u0 => pureG (u0 = .pointer (some (adr i.2.1.1 (Int.toNat (1 : Int) * 12))))) (fun η => (by kernel_rfl)) (fun η => (by kernel_rfl)) ⟨env_ok, hS, noLent⟩ (fun β η S w hM hw hG hd => have sq := hG.2.2.2.2.2.2.2.2.2.2.2.2.2.2.2.2.2.2.1; ⟨by omega, by omega, (by rw [hi]; exact qtri_row sq), rfl⟩) ?_
        refine hd_ofM (fun η => η 4) 32 12 true (fun x0 => .one (.ag 12 x0)) (fun x0 => qtriG x0 ((T3.at pts 1))) (fun η => (by kernel_rfl)) (fun η => (by kernel_rfl)) ⟨env_ok, hS, noLent⟩ (fun _ _ _ h => ⟨h.ok, rfl⟩) (fun β η S w hM hw hG hd => have sq := hG.2.2.2.2.2.2.2.2.2.2.2.2.2.2.2.2.2.2.1; qtri_el (i := 1) sq l1 (dep hd 4 (by kernel_rfl) (by kernel_rfl) : (pureG ((η 4) = .pointer (some (adr i.2.1.1 (Int.toNat (1 : Int) * 12))))).p S w)) ?_
        refine hd_done (fun η => ((qtriG (η 5) ((T3.at pts 1))).and ((pureG ((η 4) = .pointer (some (adr i.2.1.1 (Int.toNat (1 : Int) * 12))))).and ((qtriG (η 2) ((T3.at pts 0))).and ((pureG ((η 1) = .pointer (some (adr i.2.1.1 (Int.toNat (0 : Int) * 12))))).and ((Gh.nil).and ((qtriG (η_3 9) ((T3.at pts 1))).and ((pureG ((η_3 8) = .pointer (some (adr i.2.1.1 (Int.toNat (1 : Int) * 12))))).and ((qtriG (η_3 6) ((T3.at pts 0))).and ((pureG ((η_3 5) = .pointer (some (adr i.2.1.1 (Int.toNat (0 : Int) * 12))))).and ((ttryG (η_2 6) ((⟨0, 0, 0⟩ : T3)) ((61))).and ((triG (η_2 5) ((T3.at pts 1))).and ((pureG ((η_2 4) = .pointer (some (adr i.2.2.1 (Int.toNat (1 : Int) * 9))))).and ((triG (η_2 2) ((T3.at pts 0))).and ((pureG ((η_2 1) = .pointer (some (adr i.2.2.1 (Int.toNat (0 : Int) * 9))))).and ((Gh.nil).and ((triG (η_1 5) ((T3.at pts 1))).and ((pureG ((η_1 4) = .pointer (some (adr i.2.2.1 (Int.toNat (1 : Int) * 9))))).and ((triG (η_1 2) ((T3.at pts 0))).and ((pureG ((η_1 1) = .pointer (some (adr i.2.2.1 (Int.toNat (0 : Int) * 9))))).and ((qtrisG v3 (pts.take 2)).and ((rowG 32 12 v3 (2 - 0) (((catV i.2.1.2).drop (0 * 12)).take ((2 - 0) * 12))).and ((trisG i.2.2.1 pts).and ((qtrisG i.2.1.1 pts).and ((rowG 44 9 i.2.2.1 i.1 (catV i.2.2.2)).and ((rowG 32 12 i.2.1.1 i.1 (catV i.2.1.2)).and ((elsG true 12 qtriF i.2.1.2 pts).and ((elsG true 9 triF i.2.2.2 pts).and (argG v l))))))))))))))))))))))))))))) (by kernel_rfl) (fun η => (by kernel_rfl)) ?_
        intro η_4
        refine s_K (.one (.tp (T3.Same (T3.at pts 0) (T3.at pts 1)))) ⟨env_ok, hS, noLent⟩ (by kernel_rfl) (by kernel_rfl) (svB_ok rfl) rfl (fun β S w hS hs hw hG => have u1 := hG.1; have u0 := hG.2.2.1; ⟨_, (by kernel_rfl), rsame_c hS u0 u1 k0 k1 (by decide)⟩) ?_
        refine s_yes (p := T3.Same (T3.at pts 0) (T3.at pts 1)) ⟨env_ok, hS, noLent⟩ (by kernel_rfl) (by kernel_rfl) (by kernel_rfl) (hsm) ?_
        refine s_slot_yes (p := (61 : Int) = 61) 133 ⟨env_ok, hS, noLent⟩ (by kernel_rfl) (by kernel_rfl) (rfl) ?_
        refine s_K (.one (.bb true)) ⟨env_ok, hS, noLent⟩ (by kernel_rfl) (by kernel_rfl) (svB_ok rfl) rfl (fun β S w hS hs hw hG => have hj := hG.2.2.2.2.2.2.2.2.2.1; ⟨_, (by kernel_rfl), lzero_c hS hj.2 ⟨rfl, rfl, rfl⟩⟩) ?_
        refine s_K (.one (.bb true)) ⟨env_ok, hS, noLent⟩ (by kernel_rfl) (by kernel_rfl) (svB_ok rfl) rfl (fun β S w hS hs hw hG => ⟨_, (by kernel_rfl), vawake_c (ht.to hw)⟩) ?_
        exact s_ret (.bool true) ⟨env_ok, hS, noLent⟩ (by kernel_rfl) rfl (by kernel_rfl) (fun β => (by kernel_rfl)) (fun S w hs hw hG => ⟨rfl, hw⟩)
      · have je : joinE (T3.at pts 0) (T3.at pts 1) = 0 := by unfold joinE; rw [if_pos b2, if_neg hsm]
        have jt : joinT (T3.at pts 0) (T3.at pts 1) = ((T3.at pts 0).cross (T3.at pts 1)).normal := by unfold joinT; rw [if_pos je]
        refine s_drawn 12 ⟨env_ok, hS, noLent⟩ (by kernel_rfl) (by kernel_rfl) (by kernel_rfl) ?_
        refine hd_run 1 (fun η => (by kernel_rfl)) ?_
        refine hd_atM (fun η => i.2.2.1) i.1 (0 : Int) 44 9 (fun u0 => pureG (u0 = .pointer (some (adr i.2.2.1 (Int.toNat (0 : Int) * 9))))) (fun η => (by kernel_rfl)) (fun η => (by kernel_rfl)) ⟨env_ok, hS, noLent⟩ (fun β η S w hM hw hG hd => have sx := hG.2.2.2.2.2.2.2.1; ⟨by omega, by omega, (by rw [hi]; exact tri_row sx), rfl⟩) ?_
        refine hd_ofM (fun η => η 1) 44 9 true (fun x0 => .one (.ag 9 x0)) (fun x0 => triG x0 ((T3.at pts 0))) (fun η => (by kernel_rfl)) (fun η => (by kernel_rfl)) ⟨env_ok, hS, noLent⟩ (fun _ _ _ h => ⟨h.ok, rfl⟩) (fun β η S w hM hw hG hd => have sx := hG.2.2.2.2.2.2.2.1; tri_el (i := 0) sx l0 (dep hd 1 (by kernel_rfl) (by kernel_rfl) : (pureG ((η 1) = .pointer (some (adr i.2.2.1 (Int.toNat (0 : Int) * 9))))).p S w)) ?_
        refine hd_run 1 (fun η => (by kernel_rfl)) ?_
        refine hd_atM (fun η => i.2.2.1) i.1 (1 : Int) 44 9 (fun u0 => pureG (u0 = .pointer (some (adr i.2.2.1 (Int.toNat (1 : Int) * 9))))) (fun η => (by kernel_rfl)) (fun η => (by kernel_rfl)) ⟨env_ok, hS, noLent⟩ (fun β η S w hM hw hG hd => have sx := hG.2.2.2.2.2.2.2.1; ⟨by omega, by omega, (by rw [hi]; exact tri_row sx), rfl⟩) ?_
        refine hd_ofM (fun η => η 4) 44 9 true (fun x0 => .one (.ag 9 x0)) (fun x0 => triG x0 ((T3.at pts 1))) (fun η => (by kernel_rfl)) (fun η => (by kernel_rfl)) ⟨env_ok, hS, noLent⟩ (fun _ _ _ h => ⟨h.ok, rfl⟩) (fun β η S w hM hw hG hd => have sx := hG.2.2.2.2.2.2.2.1; tri_el (i := 1) sx l1 (dep hd 4 (by kernel_rfl) (by kernel_rfl) : (pureG ((η 4) = .pointer (some (adr i.2.2.1 (Int.toNat (1 : Int) * 9))))).p S w)) ?_
        refine h_1 (fun x0 => pr (.ag 9 (tupAt x0)) (.int .i64 ((0)))) (fun x0 => ttryG x0 (((T3.at pts 0).cross (T3.at pts 1)).normal) ((0))) (fun η => (by kernel_rfl)) (fun _ _ _ h => ttryG_ok h) (fun β η S w hS hs hw hG hd => have h := hG.2.2.2.2.2.2.2.2.2.2.2.2.2; ⟨_, (by kernel_rfl), (vJoin_c (ht.to hw) hS (dep hd 2 (by kernel_rfl) (by kernel_rfl) : (triG (η 2) ((T3.at pts 0))).p S w) (dep hd 5 (by kernel_rfl) (by kernel_rfl) : (triG (η 5) ((T3.at pts 1))).p S w) k0 k1 (by decide) kn (by decide)).mono fun v' w' h => ⟨h.1, by have h2 := h.2; rw [je, jt] at h2; exact h2⟩⟩) ?_
        refine hd_run 5 (fun η => (by kernel_rfl)) ?_
        refine hd_done (fun η => ((ttryG (η 6) (((T3.at pts 0).cross (T3.at pts 1)).normal) ((0))).and ((triG (η 5) ((T3.at pts 1))).and ((pureG ((η 4) = .pointer (some (adr i.2.2.1 (Int.toNat (1 : Int) * 9))))).and ((triG (η 2) ((T3.at pts 0))).and ((pureG ((η 1) = .pointer (some (adr i.2.2.1 (Int.toNat (0 : Int) * 9))))).and ((Gh.nil).and ((triG (η_1 5) ((T3.at pts 1))).and ((pureG ((η_1 4) = .pointer (some (adr i.2.2.1 (Int.toNat (1 : Int) * 9))))).and ((triG (η_1 2) ((T3.at pts 0))).and ((pureG ((η_1 1) = .pointer (some (adr i.2.2.1 (Int.toNat (0 : Int) * 9))))).and ((qtrisG v3 (pts.take 2)).and ((rowG 32 12 v3 (2 - 0) (((catV i.2.1.2).drop (0 * 12)).take ((2 - 0) * 12))).and ((trisG i.2.2.1 pts).and ((qtrisG i.2.1.1 pts).and ((rowG 44 9 i.2.2.1 i.1 (catV i.2.2.2)).and ((rowG 32 12 i.2.1.1 i.1 (catV i.2.1.2)).and ((elsG true 12 qtriF i.2.1.2 pts).and ((elsG true 9 triF i.2.2.2 pts).and (argG v l)))))))))))))))))))) (by kernel_rfl) (fun η => (by kernel_rfl)) ?_
        intro η_2
        refine s_drawn 12 ⟨env_ok, hS, noLent⟩ (by kernel_rfl) (by kernel_rfl) (by kernel_rfl) ?_
        refine hd_run 5 (fun η => (by kernel_rfl)) ?_
        refine hd_atM (fun η => i.2.1.1) i.1 (0 : Int) 32 12 (fun u0 => pureG (u0 = .pointer (some (adr i.2.1.1 (Int.toNat (0 : Int) * 12))))) (fun η => (by kernel_rfl)) (fun η => (by kernel_rfl)) ⟨env_ok, hS, noLent⟩ (fun β η S w hM hw hG hd => have sq := hG.2.2.2.2.2.2.2.2.2.2.2.2.2.1; ⟨by omega, by omega, (by rw [hi]; exact qtri_row sq), rfl⟩) ?_
        refine hd_ofM (fun η => η 5) 32 12 true (fun x0 => .one (.ag 12 x0)) (fun x0 => qtriG x0 ((T3.at pts 0))) (fun η => (by kernel_rfl)) (fun η => (by kernel_rfl)) ⟨env_ok, hS, noLent⟩ (fun _ _ _ h => ⟨h.ok, rfl⟩) (fun β η S w hM hw hG hd => have sq := hG.2.2.2.2.2.2.2.2.2.2.2.2.2.1; qtri_el (i := 0) sq l0 (dep hd 5 (by kernel_rfl) (by kernel_rfl) : (pureG ((η 5) = .pointer (some (adr i.2.1.1 (Int.toNat (0 : Int) * 12))))).p S w)) ?_
        refine hd_run 1 (fun η => (by kernel_rfl)) ?_
        refine hd_atM (fun η => i.2.1.1) i.1 (1 : Int) 32 12 (fun u0 => pureG (u0 = .pointer (some (adr i.2.1.1 (Int.toNat (1 : Int) * 12))))) (fun η => (by kernel_rfl)) (fun η => (by kernel_rfl)) ⟨env_ok, hS, noLent⟩ (fun β η S w hM hw hG hd => have sq := hG.2.2.2.2.2.2.2.2.2.2.2.2.2.1; ⟨by omega, by omega, (by rw [hi]; exact qtri_row sq), rfl⟩) ?_
        refine hd_ofM (fun η => η 8) 32 12 true (fun x0 => .one (.ag 12 x0)) (fun x0 => qtriG x0 ((T3.at pts 1))) (fun η => (by kernel_rfl)) (fun η => (by kernel_rfl)) ⟨env_ok, hS, noLent⟩ (fun _ _ _ h => ⟨h.ok, rfl⟩) (fun β η S w hM hw hG hd => have sq := hG.2.2.2.2.2.2.2.2.2.2.2.2.2.1; qtri_el (i := 1) sq l1 (dep hd 8 (by kernel_rfl) (by kernel_rfl) : (pureG ((η 8) = .pointer (some (adr i.2.1.1 (Int.toNat (1 : Int) * 12))))).p S w)) ?_
        refine h_K (.one (.tp ((T3.at pts 0).dot (T3.at pts 1) = 0))) (fun η => (by kernel_rfl)) (svB_ok rfl) rfl (fun β η S w hS hs hw hG hd => ⟨_, (by kernel_rfl), ron_c hS (dep hd 6 (by kernel_rfl) (by kernel_rfl) : (qtriG (η 6) ((T3.at pts 0))).p S w) (dep hd 9 (by kernel_rfl) (by kernel_rfl) : (qtriG (η 9) ((T3.at pts 1))).p S w) k0 k1 (by decide)⟩) ?_
        refine hd_tst (p := ¬ ((T3.at pts 0).dot (T3.at pts 1) = 0 ↔ (T3.at pts 0).dot (T3.at pts 1) = 0)) false (fun η => (by kernel_rfl)) (fun η => (by kernel_rfl)) (fun η => (by kernel_rfl)) ⟨fun h => absurd h (fun h => h Iff.rfl), fun h => by cases h⟩ ?_
        refine hd_done (fun η => ((Gh.nil).and ((qtriG (η 9) ((T3.at pts 1))).and ((pureG ((η 8) = .pointer (some (adr i.2.1.1 (Int.toNat (1 : Int) * 12))))).and ((qtriG (η 6) ((T3.at pts 0))).and ((pureG ((η 5) = .pointer (some (adr i.2.1.1 (Int.toNat (0 : Int) * 12))))).and ((ttryG (η_2 6) (((T3.at pts 0).cross (T3.at pts 1)).normal) ((0))).and ((triG (η_2 5) ((T3.at pts 1))).and ((pureG ((η_2 4) = .pointer (some (adr i.2.2.1 (Int.toNat (1 : Int) * 9))))).and ((triG (η_2 2) ((T3.at pts 0))).and ((pureG ((η_2 1) = .pointer (some (adr i.2.2.1 (Int.toNat (0 : Int) * 9))))).and ((Gh.nil).and ((triG (η_1 5) ((T3.at pts 1))).and ((pureG ((η_1 4) = .pointer (some (adr i.2.2.1 (Int.toNat (1 : Int) * 9))))).and ((triG (η_1 2) ((T3.at pts 0))).and ((pureG ((η_1 1) = .pointer (some (adr i.2.2.1 (Int.toNat (0 : Int) * 9))))).and ((qtrisG v3 (pts.take 2)).and ((rowG 32 12 v3 (2 - 0) (((catV i.2.1.2).drop (0 * 12)).take ((2 - 0) * 12))).and ((trisG i.2.2.1 pts).and ((qtrisG i.2.1.1 pts).and ((rowG 44 9 i.2.2.1 i.1 (catV i.2.2.2)).and ((rowG 32 12 i.2.1.1 i.1 (catV i.2.1.2)).and ((elsG true 12 qtriF i.2.1.2 pts).and ((elsG true 9 triF i.2.2.2 pts).and (argG v l))))))))))))))))))))))))) (by kernel_rfl) (fun η => (by kernel_rfl)) ?_
        intro η_3
        refine s_drawn 6 ⟨env_ok, hS, noLent⟩ (by kernel_rfl) (by kernel_rfl) (by kernel_rfl) ?_
        refine hd_run 1 (fun η => (by kernel_rfl)) ?_
        refine hd_atM (fun η => i.2.1.1) i.1 (0 : Int) 32 12 (fun u0 => pureG (u0 = .pointer (some (adr i.2.1.1 (Int.toNat (0 : Int) * 12))))) (fun η => (by kernel_rfl)) (fun η => (by kernel_rfl)) ⟨env_ok, hS, noLent⟩ (fun β η S w hM hw hG hd => have sq := hG.2.2.2.2.2.2.2.2.2.2.2.2.2.2.2.2.2.2.1; ⟨by omega, by omega, (by rw [hi]; exact qtri_row sq), rfl⟩) ?_
        refine hd_ofM (fun η => η 1) 32 12 true (fun x0 => .one (.ag 12 x0)) (fun x0 => qtriG x0 ((T3.at pts 0))) (fun η => (by kernel_rfl)) (fun η => (by kernel_rfl)) ⟨env_ok, hS, noLent⟩ (fun _ _ _ h => ⟨h.ok, rfl⟩) (fun β η S w hM hw hG hd => have sq := hG.2.2.2.2.2.2.2.2.2.2.2.2.2.2.2.2.2.2.1; qtri_el (i := 0) sq l0 (dep hd 1 (by kernel_rfl) (by kernel_rfl) : (pureG ((η 1) = .pointer (some (adr i.2.1.1 (Int.toNat (0 : Int) * 12))))).p S w)) ?_
        refine hd_run 1 (fun η => (by kernel_rfl)) ?_
        refine hd_atM (fun η => i.2.1.1) i.1 (1 : Int) 32 12 (fun u0 => pureG (u0 = .pointer (some (adr i.2.1.1 (Int.toNat (1 : Int) * 12))))) (fun η => (by kernel_rfl)) (fun η => (by kernel_rfl)) ⟨env_ok, hS, noLent⟩ (fun β η S w hM hw hG hd => have sq := hG.2.2.2.2.2.2.2.2.2.2.2.2.2.2.2.2.2.2.1; ⟨by omega, by omega, (by rw [hi]; exact qtri_row sq), rfl⟩) ?_
        refine hd_ofM (fun η => η 4) 32 12 true (fun x0 => .one (.ag 12 x0)) (fun x0 => qtriG x0 ((T3.at pts 1))) (fun η => (by kernel_rfl)) (fun η => (by kernel_rfl)) ⟨env_ok, hS, noLent⟩ (fun _ _ _ h => ⟨h.ok, rfl⟩) (fun β η S w hM hw hG hd => have sq := hG.2.2.2.2.2.2.2.2.2.2.2.2.2.2.2.2.2.2.1; qtri_el (i := 1) sq l1 (dep hd 4 (by kernel_rfl) (by kernel_rfl) : (pureG ((η 4) = .pointer (some (adr i.2.1.1 (Int.toNat (1 : Int) * 12))))).p S w)) ?_
        refine hd_done (fun η => ((qtriG (η 5) ((T3.at pts 1))).and ((pureG ((η 4) = .pointer (some (adr i.2.1.1 (Int.toNat (1 : Int) * 12))))).and ((qtriG (η 2) ((T3.at pts 0))).and ((pureG ((η 1) = .pointer (some (adr i.2.1.1 (Int.toNat (0 : Int) * 12))))).and ((Gh.nil).and ((qtriG (η_3 9) ((T3.at pts 1))).and ((pureG ((η_3 8) = .pointer (some (adr i.2.1.1 (Int.toNat (1 : Int) * 12))))).and ((qtriG (η_3 6) ((T3.at pts 0))).and ((pureG ((η_3 5) = .pointer (some (adr i.2.1.1 (Int.toNat (0 : Int) * 12))))).and ((ttryG (η_2 6) (((T3.at pts 0).cross (T3.at pts 1)).normal) ((0))).and ((triG (η_2 5) ((T3.at pts 1))).and ((pureG ((η_2 4) = .pointer (some (adr i.2.2.1 (Int.toNat (1 : Int) * 9))))).and ((triG (η_2 2) ((T3.at pts 0))).and ((pureG ((η_2 1) = .pointer (some (adr i.2.2.1 (Int.toNat (0 : Int) * 9))))).and ((Gh.nil).and ((triG (η_1 5) ((T3.at pts 1))).and ((pureG ((η_1 4) = .pointer (some (adr i.2.2.1 (Int.toNat (1 : Int) * 9))))).and ((triG (η_1 2) ((T3.at pts 0))).and ((pureG ((η_1 1) = .pointer (some (adr i.2.2.1 (Int.toNat (0 : Int) * 9))))).and ((qtrisG v3 (pts.take 2)).and ((rowG 32 12 v3 (2 - 0) (((catV i.2.1.2).drop (0 * 12)).take ((2 - 0) * 12))).and ((trisG i.2.2.1 pts).and ((qtrisG i.2.1.1 pts).and ((rowG 44 9 i.2.2.1 i.1 (catV i.2.2.2)).and ((rowG 32 12 i.2.1.1 i.1 (catV i.2.1.2)).and ((elsG true 12 qtriF i.2.1.2 pts).and ((elsG true 9 triF i.2.2.2 pts).and (argG v l))))))))))))))))))))))))))))) (by kernel_rfl) (fun η => (by kernel_rfl)) ?_
        intro η_4
        refine s_K (.one (.tp (T3.Same (T3.at pts 0) (T3.at pts 1)))) ⟨env_ok, hS, noLent⟩ (by kernel_rfl) (by kernel_rfl) (svB_ok rfl) rfl (fun β S w hS hs hw hG => have u1 := hG.1; have u0 := hG.2.2.1; ⟨_, (by kernel_rfl), rsame_c hS u0 u1 k0 k1 (by decide)⟩) ?_
        refine s_no (p := T3.Same (T3.at pts 0) (T3.at pts 1)) ⟨env_ok, hS, noLent⟩ (by kernel_rfl) (by kernel_rfl) (by kernel_rfl) (hsm) ?_
        refine s_drawn 11 ⟨env_ok, hS, noLent⟩ (by kernel_rfl) (by kernel_rfl) (by kernel_rfl) ?_
        refine hd_run 1 (fun η => (by kernel_rfl)) ?_
        refine hd_tst (p := (0 : Int) = 0) true (fun η => (by kernel_rfl)) (fun η => (by kernel_rfl)) (fun η => (by kernel_rfl)) ⟨fun _ => rfl, fun _ => rfl⟩ ?_
        refine hd_run 3 (fun η => (by kernel_rfl)) ?_
        refine hd_atM (fun η => i.2.1.1) i.1 (0 : Int) 32 12 (fun u0 => pureG (u0 = .pointer (some (adr i.2.1.1 (Int.toNat (0 : Int) * 12))))) (fun η => (by kernel_rfl)) (fun η => (by kernel_rfl)) ⟨env_ok, hS, noLent⟩ (fun β η S w hM hw hG hd => have sq := hG.2.2.2.2.2.2.2.2.2.2.2.2.2.2.2.2.2.2.2.2.2.2.1; ⟨by omega, by omega, (by rw [hi]; exact qtri_row sq), rfl⟩) ?_
        refine hd_ofM (fun η => η 5) 32 12 true (fun x0 => .one (.ag 12 x0)) (fun x0 => qtriG x0 ((T3.at pts 0))) (fun η => (by kernel_rfl)) (fun η => (by kernel_rfl)) ⟨env_ok, hS, noLent⟩ (fun _ _ _ h => ⟨h.ok, rfl⟩) (fun β η S w hM hw hG hd => have sq := hG.2.2.2.2.2.2.2.2.2.2.2.2.2.2.2.2.2.2.2.2.2.2.1; qtri_el (i := 0) sq l0 (dep hd 5 (by kernel_rfl) (by kernel_rfl) : (pureG ((η 5) = .pointer (some (adr i.2.1.1 (Int.toNat (0 : Int) * 12))))).p S w)) ?_
        refine hd_run 1 (fun η => (by kernel_rfl)) ?_
        refine hd_atM (fun η => i.2.1.1) i.1 (1 : Int) 32 12 (fun u0 => pureG (u0 = .pointer (some (adr i.2.1.1 (Int.toNat (1 : Int) * 12))))) (fun η => (by kernel_rfl)) (fun η => (by kernel_rfl)) ⟨env_ok, hS, noLent⟩ (fun β η S w hM hw hG hd => have sq := hG.2.2.2.2.2.2.2.2.2.2.2.2.2.2.2.2.2.2.2.2.2.2.1; ⟨by omega, by omega, (by rw [hi]; exact qtri_row sq), rfl⟩) ?_
        refine hd_ofM (fun η => η 8) 32 12 true (fun x0 => .one (.ag 12 x0)) (fun x0 => qtriG x0 ((T3.at pts 1))) (fun η => (by kernel_rfl)) (fun η => (by kernel_rfl)) ⟨env_ok, hS, noLent⟩ (fun _ _ _ h => ⟨h.ok, rfl⟩) (fun β η S w hM hw hG hd => have sq := hG.2.2.2.2.2.2.2.2.2.2.2.2.2.2.2.2.2.2.2.2.2.2.1; qtri_el (i := 1) sq l1 (dep hd 8 (by kernel_rfl) (by kernel_rfl) : (pureG ((η 8) = .pointer (some (adr i.2.1.1 (Int.toNat (1 : Int) * 12))))).p S w)) ?_
        refine h_1 (fun x0 => .one (.ag 12 x0)) (fun x0 => qtriG x0 (((T3.at pts 0).cross (T3.at pts 1)))) (fun η => (by kernel_rfl)) (fun _ _ _ h => ⟨h.ok, rfl⟩) (fun β η S w hS hs hw hG hd => ⟨_, (by kernel_rfl), rcross_c hS (dep hd 6 (by kernel_rfl) (by kernel_rfl) : (qtriG (η 6) ((T3.at pts 0))).p S w) (dep hd 9 (by kernel_rfl) (by kernel_rfl) : (qtriG (η 9) ((T3.at pts 1))).p S w) k0 k1 (by decide)⟩) ?_
        refine hd_done (fun η => ((qtriG (η 10) (((T3.at pts 0).cross (T3.at pts 1)))).and ((qtriG (η 9) ((T3.at pts 1))).and ((pureG ((η 8) = .pointer (some (adr i.2.1.1 (Int.toNat (1 : Int) * 12))))).and ((qtriG (η 6) ((T3.at pts 0))).and ((pureG ((η 5) = .pointer (some (adr i.2.1.1 (Int.toNat (0 : Int) * 12))))).and ((qtriG (η_4 5) ((T3.at pts 1))).and ((pureG ((η_4 4) = .pointer (some (adr i.2.1.1 (Int.toNat (1 : Int) * 12))))).and ((qtriG (η_4 2) ((T3.at pts 0))).and ((pureG ((η_4 1) = .pointer (some (adr i.2.1.1 (Int.toNat (0 : Int) * 12))))).and ((Gh.nil).and ((qtriG (η_3 9) ((T3.at pts 1))).and ((pureG ((η_3 8) = .pointer (some (adr i.2.1.1 (Int.toNat (1 : Int) * 12))))).and ((qtriG (η_3 6) ((T3.at pts 0))).and ((pureG ((η_3 5) = .pointer (some (adr i.2.1.1 (Int.toNat (0 : Int) * 12))))).and ((ttryG (η_2 6) (((T3.at pts 0).cross (T3.at pts 1)).normal) ((0))).and ((triG (η_2 5) ((T3.at pts 1))).and ((pureG ((η_2 4) = .pointer (some (adr i.2.2.1 (Int.toNat (1 : Int) * 9))))).and ((triG (η_2 2) ((T3.at pts 0))).and ((pureG ((η_2 1) = .pointer (some (adr i.2.2.1 (Int.toNat (0 : Int) * 9))))).and ((Gh.nil).and ((triG (η_1 5) ((T3.at pts 1))).and ((pureG ((η_1 4) = .pointer (some (adr i.2.2.1 (Int.toNat (1 : Int) * 9))))).and ((triG (η_1 2) ((T3.at pts 0))).and ((pureG ((η_1 1) = .pointer (some (adr i.2.2.1 (Int.toNat (0 : Int) * 9))))).and ((qtrisG v3 (pts.take 2)).and ((rowG 32 12 v3 (2 - 0) (((catV i.2.1.2).drop (0 * 12)).take ((2 - 0) * 12))).and ((trisG i.2.2.1 pts).and ((qtrisG i.2.1.1 pts).and ((rowG 44 9 i.2.2.1 i.1 (catV i.2.2.2)).and ((rowG 32 12 i.2.1.1 i.1 (catV i.2.1.2)).and ((elsG true 12 qtriF i.2.1.2 pts).and ((elsG true 9 triF i.2.2.2 pts).and (argG v l)))))))))))))))))))))))))))))))))) (by kernel_rfl) (fun η => (by kernel_rfl)) ?_
        intro η_5
        refine s_K (.one (.bb true)) ⟨env_ok, hS, noLent⟩ (by kernel_rfl) (by kernel_rfl) (svB_ok rfl) rfl (fun β S w hS hs hw hG => have hcr := hG.1; have hj := hG.2.2.2.2.2.2.2.2.2.2.2.2.2.2.1; ⟨_, (by kernel_rfl), lis_c (ht.to hw) hS hj.2 hcr (tl_cross k0 k1) (by decide) hsm rfl⟩) ?_
        refine s_K (.one (.bb true)) ⟨env_ok, hS, noLent⟩ (by kernel_rfl) (by kernel_rfl) (svB_ok rfl) rfl (fun β S w hS hs hw hG => ⟨_, (by kernel_rfl), vawake_c (ht.to hw)⟩) ?_
        exact s_ret (.bool true) ⟨env_ok, hS, noLent⟩ (by kernel_rfl) rfl (by kernel_rfl) (fun β => (by kernel_rfl)) (fun S w hs hw hG => ⟨rfl, hw⟩)
    · refine s_yes (p := ¬ checkT (pts.take 2) = 0) ⟨env_ok, hS, noLent⟩ (by kernel_rfl) (by kernel_rfl) (by kernel_rfl) (hc2) ?_
      refine s_K (.one (.bb true)) ⟨env_ok, hS, noLent⟩ (by kernel_rfl) (by kernel_rfl) (svB_ok rfl) rfl (fun β S w hS hs hw hG => ⟨_, (by kernel_rfl), vawake_c (ht.to hw)⟩) ?_
      exact s_ret (.bool true) ⟨env_ok, hS, noLent⟩ (by kernel_rfl) rfl (by kernel_rfl) (fun β => (by kernel_rfl)) (fun S w hs hw hG => ⟨rfl, hw⟩)
end Go.Proofs.YtpheooheinfbgaaGreatDoor
end
section
set_option linter.unusedVariables false
namespace Go.Proofs.YtpheooheinfbgaaGreatDoor
open Go Go.ChangeShapes Go.WideShapes Go.ChangeAt Go.WideMaps Go.WideElems Go.RowKit
theorem own : ownKnob Tryz.prog.godebug = none := by kernel_rfl
theorem gTab : Tryz.prog.globalNamed "internal/strconv.uint64pow10" = some 3 := by kernel_rfl
theorem tTab : (Tryz.prog.globals[3]?).map (·.type) = some 235 := by kernel_rfl
theorem cTab : Tryz.prog.cellsOf 235 = 20 := by kernel_rfl
theorem cTabE : Tryz.prog.cellsOf 132 = 1 := by kernel_rfl
theorem dTab : (Rows.laid_internal_strconv_uint64pow10 : DataW Unit) = Lib.tabData .u64 Lib.pow10Tab := by rfl
end Go.Proofs.YtpheooheinfbgaaGreatDoor
end
section
set_option linter.unusedVariables false
namespace Go.Proofs.YtpheooheinfbgaaGreatDoor
open Go Go.ChangeShapes Go.WideShapes Go.ChangeAt Go.WideMaps Go.WideElems Go.RowKit
theorem p7_tab {W : World} (h : laidMetH Tryz.prog Rows.viewJoinsRow.laid W) : Tab W := by
  rw [MakeChecks.laidMetH_plain _ _ _ (by kernel_rfl)] at h
  obtain ⟨ps, ⟨g0, t0, cs0, f0, p0, q0, hg0, ht0, hv0, hd0, ⟨g1, t1, cs1, f1, p1, q1, hg1, ht1, hv1, hd1, ⟨g2, t2, cs2, f2, p2, q2, hg2, ht2, hv2, hd2, _⟩, _⟩, _⟩, _⟩ := h
  obtain rfl := Option.some.inj (gTab.symm.trans hg2)
  obtain rfl := Option.some.inj (tTab.symm.trans ht2)
  rw [dTab] at hd2
  unfold Tab Lib.TabIs
  rw [hv2, ← Lib.cells_of_tab Tryz.underlying235 Tryz.underlying132 cTabE cTab hd2]
theorem p7_laid (os : Os) (args : Array Value) : laidMetH Tryz.prog Rows.viewJoinsRow.laid ((World.laidAll Tryz.prog os Rows.viewJoinsRow.laid).forCall (fun _ _ => 0) ⟨#[], args, []⟩).memory := by
  rw [MakeChecks.laidMetH_plain _ _ _ (by kernel_rfl)]
  exact laidMet_laidAll _ (by kernel_rfl) (by kernel_rfl)
theorem laidOut : laidOutB Tryz.prog = true := by kernel_rfl
theorem cellsP : Tryz.prog.cellsOf 35 = 6 := by kernel_rfl
theorem cellsI : Tryz.prog.cellsOf 3 = 1 := by kernel_rfl
theorem ArgS.six {S : Nat → Prop} {w : World} {v : Value} {l : List (Nat → Int)} (h : ArgS S w v l) : ∀ a ∈ l, Six a := by
  intro a ha
  obtain ⟨i, hi, rfl⟩ := List.mem_iff_getElem.1 ha
  have hs := h.2.2 (fun e => by rw [e] at hi; exact absurd hi (Nat.not_lt_zero _))
  obtain ⟨x, _, _, h3⟩ := hs.at (List.getElem?_eq_getElem hi)
  exact h3.2
set_option maxRecDepth 100000 in
theorem joins_lifted (os : Os) (started : os.Started) (H : Type) (enc : TypeId × Value → H) :
    ReturnsInHanded {} Tryz.checked os 3 .any (fun w args => (Rows.viewJoinsSpec.pre enc Tryz.prog Tryz.f3 [] false w args ∧ laidMetH Tryz.prog Rows.viewJoinsRow.laid w) ∧ sizedMet enc Tryz.prog Tryz.f3 (OpenSpec.ofChange Rows.viewJoinsSpec) false w args)
      (Rows.viewJoinsSpec.post enc Tryz.prog Tryz.f3 false true false false) := by
  refine returnsInHanded_of_change_and (C := Tryz.checked) (X := fun w _ => laidMetH Tryz.prog Rows.viewJoinsRow.laid w) (fun _ _ _ hh h => h.of_heap hh) own started (by kernel_rfl) Tryz.func3
    (ChangeSpec.witness_shaped (enc := enc) (C := Tryz.checked) (os := os) (X := fun w _ => laidMetH Tryz.prog Rows.viewJoinsRow.laid w) false (World.laidAll Tryz.prog os Rows.viewJoinsRow.laid) #[.slice none 0 0] 8 (World.laidAll_os _ _ _) (World.shaped_of_ZipB (by kernel_rfl) (by kernel_rfl)) (by kernel_rfl) (by kernel_rfl) (by kernel_rfl) (p7_laid os _)) ?_
  intro W base args ds gs before hval0 hW _ _ hL _
  have hval : ∀ (j : Nat) t v, Tryz.f3.params[j]? = some t → args[j]? = some v → Value.okWide Tryz.prog W .any base t v := hval0
  have hW' := hW
  obtain ⟨p, q, hA0, hV, rfl, hfz, hnd⟩ := hW
  have hA : DataW.TrodAll enc Tryz.prog W 0 (fun _ => true) true Tryz.f3.params.toList args.toList ds p := hA0
  rw [Tryz.params3] at hA hval
  obtain ⟨v0, d0, rfl, rfl, h0⟩ := trodAll_one hA
  obtain ⟨rfl, rfl⟩ := trodVars_none hV
  obtain ⟨a0, len, cap, rfl⟩ := okWide_slice Tryz.underlying22 (hval 0 22 v0 rfl rfl)
  have h0k := h0
  obtain ⟨fuel0, hf⟩ := h0
  clear hA0 hval0
  have hlt : ∀ x ∈ p, x.block < W.heap.size := fun x hx => hW'.lt x (List.mem_append_left _ hx)
  have hargs : ∀ (W' : World), Below W.heap.size W W' → DataW.Trod enc Tryz.prog W' 0 (fun b => decide (b < W.heap.size)) true 22 (.slice a0 len cap) d0 p :=
    fun W' hn => Below.trod laidOut (by kernel_rfl) (of_decide_eq_true (by kernel_rfl)) h0k hn hlt
  obtain ⟨v1, l, hc, hArg⟩ := open_sixes Tryz.underlying22 Tryz.underlying35 Tryz.underlying3 cellsI cellsP hf
  obtain rfl : Value.slice a0 len cap = v1 := by simpa [Value.cells] using hc
  refine Calls.mono (viewJoins_c (p7_tab hL) hArg hArg.six) fun e W' ⟨v, he, hv, hw⟩ => ?_
  subst he hv
  refine ⟨_, rfl, _, _, _, [], p, [], hW', ?_, ?_, rfl, hw.below.frame _, fun h => by cases h⟩
  · exact trodAll_mk1 (shut_bool Tryz.underlying4 _)
  · exact trodAll_mk1 (hargs W' hw.below)
theorem joins_row : Rows.ViewJoinsSaid :=
  OpenClaim.holds_of_wide 3 Tryz.f3 rfl rfl rfl rfl rfl rfl rfl ⟨rfl, rfl, rfl, rfl, rfl⟩ rfl rfl rfl rfl rfl (by kernel_rfl) Tryz.func3 (by kernel_rfl)
    (of_decide_eq_true (by kernel_rfl)) (by unfold Func.isWrapper; first | (rw [if_pos (by decide +kernel)]; kernel_rfl) | (rw [if_neg (by decide +kernel)]; exact ⟨rfl, rfl⟩))
    (fun os started H enc _ => joins_lifted os started H enc)
set_option maxHeartbeats 4000000 in
set_option maxRecDepth 100000 in
theorem joins_holds : Rows.ViewJoinsCardSaid :=
  Claim7.holds_tied_plain_at .later [] [.data, .data, .data, .data, .sentinel, .sentinel, .pinned] true Rows.viewJoinsCard.stood.harness true
    joins_row (fun _ h => by cases h) (by kernel_rfl) (fun _ h => by cases h) viewJoins_row_tie rfl ⟨rfl, rfl⟩ (by kernel_rfl) rfl
    (fun f fn hf hfn => by
      obtain rfl : f = 3 := Option.some.inj ((show Tryz.prog.funcNamed "rabbet/rabbetlaw06.ViewJoins" = some 3 by kernel_rfl).symm.trans hf) |>.symm
      obtain rfl : fn = Tryz.f3 := (Option.some.inj (Tryz.func3.symm.trans hfn)).symm
      exact ⟨by kernel_rfl, fun j t ht => by
        rw [Tryz.params3] at ht
        have h3 : t = 22 := by
          rcases j with _ | j
          · simpa using ht.symm
          · simp at ht
        subst h3
        exact (show Tryz.prog.wantsStandIn 22 = false by kernel_rfl)⟩)
    (by kernel_rfl)
end Go.Proofs.YtpheooheinfbgaaGreatDoor
end
