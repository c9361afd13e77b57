/- Laws2 PBase PLaws -/
import Derived.Test.YtpmnjjmngogkkaaGreatDoorLawsA2
import Derived.Test.YtpmnjjmngogkkaaGreatDoorLawsA3
import Derived.Test.YtpmnjjmngogkkaaGreatDoorStr
import Derived.Test.YtpmnjjmngogkkaaGreatDoorCards
import Derived.Test.YtpmnjjmngogkkaaGreatDoorTie
import Derived.ProofKit
import Derived.LaidMore
import Derived.OpenShut
import Derived.Stop.Joined
import Derived.SevenTiedAt
import Derived.Lay
section
/- The statement FracLaws: whatever six strings come in, it returns true. -/
set_option linter.unusedVariables false
set_option linter.unusedSimpArgs false
namespace Go.Proofs.YtpmnjjmngogkkaaGreatDoor
open Go Go.RowKit

/-- The order of fractions, as it is compared. -/
abbrev cs (p q : Rat) : Int := (p.num * q.den - q.num * p.den).sign
theorem cs_self {p q : Rat} (h : p = q) : cs p q = 0 := by subst h; unfold cs; rw [Int.sub_self]; rfl
theorem cs_neg (p q : Rat) : cs p q < 0 ↔ 0 < cs (-p) (-q) := by
  unfold cs
  have e : (-p).num * ((-q).den : Int) - (-q).num * ((-p).den : Int) = -(p.num * q.den - q.num * p.den) := by
    rw [Rat.neg_num, Rat.neg_num, Rat.neg_den, Rat.neg_den]
    rw [Int.neg_mul, Int.neg_mul]
    omega
  rw [e, Int.sign_neg]
  omega
theorem cs_lt (p q : Rat) : cs p q < 0 ↔ p < q := by
  unfold cs
  rw [Int.sign_neg_iff, Rat.lt_iff]
  omega
theorem cs_ge (p q : Rat) : 0 ≤ cs p q ↔ ¬ p < q := by rw [← cs_lt]; omega
theorem sign_pos' (c : Rat) : 0 < c.num.sign ↔ 0 < c := by
  rw [Rat.lt_iff]
  have h : 0 < c.num.sign ↔ 0 < c.num := Int.sign_pos_iff
  rw [h]
  show 0 < c.num ↔ (0 : Int) * c.den < c.num * ((1 : Nat) : Int)
  rw [Int.zero_mul]
  omega
theorem rat_back {a c : Rat} (h : c.num ≠ 0) : a * c / c = a := by
  have hc : c ≠ 0 := fun e => h (by rw [e]; rfl)
  rw [Rat.div_def, Rat.mul_assoc, Rat.mul_inv_cancel c hc, Rat.mul_one]
/-- The order of integers, as it is compared. -/
theorem ics_self {p q : Int} (h : p = q) : (p - q).sign = 0 := by subst h; rw [Int.sub_self]; rfl
theorem gcd_parts {p q : Int} (h : Int.gcd p q ≠ 0) : p % (Int.gcd p q : Int) = 0 ∧ q % (Int.gcd p q : Int) = 0 ∧ p / (Int.gcd p q : Int) * (Int.gcd p q : Int) = p ∧ Int.gcd (p / (Int.gcd p q : Int)) (q / (Int.gcd p q : Int)) = 1 := by
  refine ⟨Int.emod_eq_zero_of_dvd (Int.gcd_dvd_left ..), Int.emod_eq_zero_of_dvd (Int.gcd_dvd_right ..), Int.ediv_mul_cancel (Int.gcd_dvd_left ..), Int.gcd_ediv_gcd_ediv_gcd (by omega)⟩

theorem gcd_zl2 {a b : Int} {k : Nat} (ha : zl a ≤ k) (hb : zl b ≤ k) : zl (Int.gcd a b : Int) ≤ k := by
  by_cases h0 : b = 0
  · subst h0
    rw [Int.gcd_zero_right]
    unfold zl at *
    rw [Int.natAbs_natCast]
    exact ha
  · exact gcd_zl h0 hb
theorem div_zl {u d p : Int} {k : Nat} (h : u * d = p) (hd : d ≠ 0) (hp : zl p ≤ k) : zl u ≤ k := by
  unfold zl at *
  refine Nat.le_trans (dl_mono ?_) hp
  rw [← h, Int.natAbs_mul]
  exact Nat.le_mul_of_pos_right _ (by omega)

theorem fracLaws_c {w : World} {a0 a1 a2 b0 b1 b2 : List UInt8} (ht : Tab w) (h0 : a0.length ≤ 140737488351232) (h1 : a1.length ≤ 140737488351232) (h2 : a2.length ≤ 140737488351232) (h3 : b0.length ≤ 140737488351232) (h4 : b1.length ≤ 140737488351232) (h5 : b2.length ≤ 140737488351232) :
    Gives Tryz.prog 7 [.agg #[strV a0, strV a1, strV a2], .agg #[strV b0, strV b1, strV b2]] w fun v' w' => v' = .bool true ∧ Ext w w' := by
  have hS : Up All w := Up.all
  refine t_gives (E := env) (S0 := All) (G := Gh.nil) (l := [.agg [.str a0, .str a1, .str a2], .agg [.str b0, .str b1, .str b2]]) Tryz.func7 rfl rfl rfl ⟨ok_agg rfl, ok_agg rfl, trivial⟩ rfl trivial ?_
  refine s_ratio  ⟨env_ok, hS⟩ (by kernel_rfl) (by kernel_rfl) (fun β S w hS hs hw hG => ⟨_, (by kernel_rfl), ratio_l (most := 100) hS h0 (by decide) (by decide)⟩) ?_
  rintro va vp a la
  refine s_ratio  ⟨env_ok, hS⟩ (by kernel_rfl) (by kernel_rfl) (fun β S w hS hs hw hG => ⟨_, (by kernel_rfl), ratio_l (most := 100) hS h1 (by decide) (by decide)⟩) ?_
  rintro vb vq b lb
  refine s_ratio  ⟨env_ok, hS⟩ (by kernel_rfl) (by kernel_rfl) (fun β S w hS hs hw hG => ⟨_, (by kernel_rfl), ratio_l (most := 100) hS h2 (by decide) (by decide)⟩) ?_
  rintro vc vr c lc
  have ra : rl a 12 := rl_len (by omega)
  have rb : rl b 12 := rl_len (by omega)
  have rc : rl c 12 := rl_len (by omega)
  have rab := rl_add ra rb
  have rx := rl_mul rab rc
  have rac := rl_mul ra rc
  have rbc := rl_mul rb rc
  have ry := rl_add rac rbc
  have big : ∀ {q : Rat} {n : Nat}, rl q n → n ≤ 400000000000 → rl q 400000000000 := fun h k => rl_mono h k
  refine s_fit (fits_rl rab (by decide)) ⟨env_ok, hS⟩ (by kernel_rfl) (by kernel_rfl) (fun β S w hS hs hw hG => have hb := hG.2.1.1; have ha := hG.2.2.1.1; ⟨_, (by kernel_rfl), radd_c hS ha hb (big ra (by decide)) (big rb (by decide))⟩) ?_
  rintro vab
  refine s_fit (fits_rl rx (by decide)) ⟨env_ok, hS⟩ (by kernel_rfl) (by kernel_rfl) (fun β S w hS hs hw hG => have hab := hG.1; have hc := hG.2.1.1; ⟨_, (by kernel_rfl), rmul_c hS hab hc (big rab (by decide)) (big rc (by decide))⟩) ?_
  rintro vx
  refine s_fit (fits_rl rac (by decide)) ⟨env_ok, hS⟩ (by kernel_rfl) (by kernel_rfl) (fun β S w hS hs hw hG => have hc := hG.2.2.1.1; have ha := hG.2.2.2.2.1.1; ⟨_, (by kernel_rfl), rmul_c hS ha hc (big ra (by decide)) (big rc (by decide))⟩) ?_
  rintro vac
  refine s_fit (fits_rl rbc (by decide)) ⟨env_ok, hS⟩ (by kernel_rfl) (by kernel_rfl) (fun β S w hS hs hw hG => have hc := hG.2.2.2.1.1; have hb := hG.2.2.2.2.1.1; ⟨_, (by kernel_rfl), rmul_c hS hb hc (big rb (by decide)) (big rc (by decide))⟩) ?_
  rintro vbc
  refine s_fit (fits_rl ry (by decide)) ⟨env_ok, hS⟩ (by kernel_rfl) (by kernel_rfl) (fun β S w hS hs hw hG => have hbc := hG.1; have hac := hG.2.1; ⟨_, (by kernel_rfl), radd_c hS hac hbc (big rac (by decide)) (big rbc (by decide))⟩) ?_
  rintro vy
  refine s_mid (ι := Unit) [(89, 142)] (fun _ => [(142, .one (.bb false))]) (fun _ => []) (fun _ => ((ratG vy (a * c + b * c)).and ((ratG vbc (b * c)).and ((ratG vac (a * c)).and ((ratG vx ((a + b) * c)).and ((ratG vab (a + b)).and (((ratG vc c).and (qG vr c)).and (((ratG vb b).and (qG vq b)).and (((ratG va a).and (qG vp a)).and (Gh.nil)))))))))) (fun _ => True) ⟨env_ok, hS⟩ (by kernel_rfl) (fun hso => ?_) (fun _ _ => ?_)
  · by_cases hcp : 0 < c.num.sign
    · by_cases hlt : cs a b < 0
      · refine s_drawn 53 ⟨env_ok, hS⟩ (by kernel_rfl) (by kernel_rfl) (by kernel_rfl) ?_
        refine hd_run 21 (fun η => (by kernel_rfl)) ?_
        refine h_K (.one (.lit .i64 0)) (fun η => (by kernel_rfl)) trivial rfl (fun β η S w hS hs hw hG hd => have hy := hG.1; have hx := hG.2.2.2.1; ⟨_, (by kernel_rfl), gK (rcmp_c hS hx hy (big rx (by decide)) (big ry (by decide))) (congrArg (Value.int .i64) (cs_self (Rat.add_mul a b c)))⟩) ?_
        refine hd_run 5 (fun η => (by kernel_rfl)) ?_
        refine h_K (.one (.int .i64 (cs a b))) (fun η => (by kernel_rfl)) trivial rfl (fun β η S w hS hs hw hG hd => have hb := hG.2.2.2.2.2.2.1.1; have ha := hG.2.2.2.2.2.2.2.1.1; ⟨_, (by kernel_rfl), rcmp_c hS ha hb (big ra (by decide)) (big rb (by decide))⟩) ?_
        refine hd_run 2 (fun η => (by kernel_rfl)) ?_
        refine h_1 (fun x0 => .one (.ag 3 x0)) (fun x0 => ratG x0 ((-a))) (fun η => (by kernel_rfl)) (fun _ _ _ h => ⟨h.ok, rfl⟩) (fun β η S w hS hs hw hG hd => have ha := hG.2.2.2.2.2.2.2.1.1; ⟨_, (by kernel_rfl), rneg_c ha⟩) ?_
        refine hd_run 1 (fun η => (by kernel_rfl)) ?_
        refine h_1 (fun x0 => .one (.ag 3 x0)) (fun x0 => ratG x0 ((-b))) (fun η => (by kernel_rfl)) (fun _ _ _ h => ⟨h.ok, rfl⟩) (fun β η S w hS hs hw hG hd => have hb := hG.2.2.2.2.2.2.1.1; ⟨_, (by kernel_rfl), rneg_c hb⟩) ?_
        refine h_K (.one (.int .i64 (cs (-a) (-b)))) (fun η => (by kernel_rfl)) trivial rfl (fun β η S w hS hs hw hG hd => ⟨_, (by kernel_rfl), rcmp_c hS (dep hd 30 (by kernel_rfl) (by kernel_rfl) : (ratG (η 30) ((-a))).p S w) (dep hd 32 (by kernel_rfl) (by kernel_rfl) : (ratG (η 32) ((-b))).p S w) (rl_neg (big ra (by decide))) (rl_neg (big rb (by decide)))⟩) ?_
        refine hd_run 1 (fun η => (by kernel_rfl)) ?_
        refine hd_tst (p := ¬ ((cs a b < 0) ↔ (0 < cs (-a) (-b)))) false (fun η => (by kernel_rfl)) (fun η => (by kernel_rfl)) (fun η => (by kernel_rfl)) ⟨fun h => absurd h (fun h => h (cs_neg a b)), fun h => by cases h⟩ ?_
        refine hd_run 3 (fun η => (by kernel_rfl)) ?_
        refine h_K (.one (.int .i64 c.num.sign)) (fun η => (by kernel_rfl)) trivial rfl (fun β η S w hS hs hw hG hd => have hc := hG.2.2.2.2.2.1.1; ⟨_, (by kernel_rfl), rsign_c hc⟩) ?_
        refine hd_tst (p := 0 < c.num.sign) true (fun η => (by kernel_rfl)) (fun η => (by kernel_rfl)) (fun η => (by kernel_rfl)) ⟨fun _ => rfl, fun _ => hcp⟩ ?_
        refine hd_run 3 (fun η => (by kernel_rfl)) ?_
        refine h_K (.one (.int .i64 (cs a b))) (fun η => (by kernel_rfl)) trivial rfl (fun β η S w hS hs hw hG hd => have hb := hG.2.2.2.2.2.2.1.1; have ha := hG.2.2.2.2.2.2.2.1.1; ⟨_, (by kernel_rfl), rcmp_c hS ha hb (big ra (by decide)) (big rb (by decide))⟩) ?_
        refine hd_tst (p := cs a b < 0) true (fun η => (by kernel_rfl)) (fun η => (by kernel_rfl)) (fun η => (by kernel_rfl)) ⟨fun _ => rfl, fun _ => hlt⟩ ?_
        refine hd_run 4 (fun η => (by kernel_rfl)) ?_
        refine h_K (.one (.int .i64 (cs (a * c) (b * c)))) (fun η => (by kernel_rfl)) trivial rfl (fun β η S w hS hs hw hG hd => have hbc := hG.2.1; have hac := hG.2.2.1; ⟨_, (by kernel_rfl), rcmp_c hS hac hbc (big rac (by decide)) (big rbc (by decide))⟩) ?_
        refine hd_tst (p := 0 ≤ cs (a * c) (b * c)) false (fun η => (by kernel_rfl)) (fun η => (by kernel_rfl)) (fun η => (by kernel_rfl)) ⟨fun h => absurd h (fun h => (cs_ge _ _).1 h (Rat.mul_lt_mul_of_pos_right ((cs_lt a b).1 hlt) ((sign_pos' c).1 hcp))), fun h => by cases h⟩ ?_
        refine hd_run 1 (fun η => (by kernel_rfl)) ?_
        refine hd_done (fun η => ((Gh.nil).and ((Gh.nil).and ((Gh.nil).and ((Gh.nil).and ((ratG (η 32) ((-b))).and ((ratG (η 30) ((-a))).and ((Gh.nil).and ((Gh.nil).and ((ratG vy (a * c + b * c)).and ((ratG vbc (b * c)).and ((ratG vac (a * c)).and ((ratG vx ((a + b) * c)).and ((ratG vab (a + b)).and (((ratG vc c).and (qG vr c)).and (((ratG vb b).and (qG vq b)).and (((ratG va a).and (qG vp a)).and (Gh.nil)))))))))))))))))) (by kernel_rfl) (fun η => (by kernel_rfl)) ?_
        intro η_1
        exact s_join () ⟨env_ok, hS⟩ hso (by kernel_rfl) (by kernel_rfl) (fun β => (by kernel_rfl)) (fun β => (by kernel_rfl)) (by kernel_rfl) trivial (fun S w hw hG => ⟨ov_free rfl, fun p hp => by cases hp⟩) (fun S w hw hG => hG.2.2.2.2.2.2.2.2)
      · refine s_drawn 53 ⟨env_ok, hS⟩ (by kernel_rfl) (by kernel_rfl) (by kernel_rfl) ?_
        refine hd_run 21 (fun η => (by kernel_rfl)) ?_
        refine h_K (.one (.lit .i64 0)) (fun η => (by kernel_rfl)) trivial rfl (fun β η S w hS hs hw hG hd => have hy := hG.1; have hx := hG.2.2.2.1; ⟨_, (by kernel_rfl), gK (rcmp_c hS hx hy (big rx (by decide)) (big ry (by decide))) (congrArg (Value.int .i64) (cs_self (Rat.add_mul a b c)))⟩) ?_
        refine hd_run 5 (fun η => (by kernel_rfl)) ?_
        refine h_K (.one (.int .i64 (cs a b))) (fun η => (by kernel_rfl)) trivial rfl (fun β η S w hS hs hw hG hd => have hb := hG.2.2.2.2.2.2.1.1; have ha := hG.2.2.2.2.2.2.2.1.1; ⟨_, (by kernel_rfl), rcmp_c hS ha hb (big ra (by decide)) (big rb (by decide))⟩) ?_
        refine hd_run 2 (fun η => (by kernel_rfl)) ?_
        refine h_1 (fun x0 => .one (.ag 3 x0)) (fun x0 => ratG x0 ((-a))) (fun η => (by kernel_rfl)) (fun _ _ _ h => ⟨h.ok, rfl⟩) (fun β η S w hS hs hw hG hd => have ha := hG.2.2.2.2.2.2.2.1.1; ⟨_, (by kernel_rfl), rneg_c ha⟩) ?_
        refine hd_run 1 (fun η => (by kernel_rfl)) ?_
        refine h_1 (fun x0 => .one (.ag 3 x0)) (fun x0 => ratG x0 ((-b))) (fun η => (by kernel_rfl)) (fun _ _ _ h => ⟨h.ok, rfl⟩) (fun β η S w hS hs hw hG hd => have hb := hG.2.2.2.2.2.2.1.1; ⟨_, (by kernel_rfl), rneg_c hb⟩) ?_
        refine h_K (.one (.int .i64 (cs (-a) (-b)))) (fun η => (by kernel_rfl)) trivial rfl (fun β η S w hS hs hw hG hd => ⟨_, (by kernel_rfl), rcmp_c hS (dep hd 30 (by kernel_rfl) (by kernel_rfl) : (ratG (η 30) ((-a))).p S w) (dep hd 32 (by kernel_rfl) (by kernel_rfl) : (ratG (η 32) ((-b))).p S w) (rl_neg (big ra (by decide))) (rl_neg (big rb (by decide)))⟩) ?_
        refine hd_run 1 (fun η => (by kernel_rfl)) ?_
        refine hd_tst (p := ¬ ((cs a b < 0) ↔ (0 < cs (-a) (-b)))) false (fun η => (by kernel_rfl)) (fun η => (by kernel_rfl)) (fun η => (by kernel_rfl)) ⟨fun h => absurd h (fun h => h (cs_neg a b)), fun h => by cases h⟩ ?_
        refine hd_run 3 (fun η => (by kernel_rfl)) ?_
        refine h_K (.one (.int .i64 c.num.sign)) (fun η => (by kernel_rfl)) trivial rfl (fun β η S w hS hs hw hG hd => have hc := hG.2.2.2.2.2.1.1; ⟨_, (by kernel_rfl), rsign_c hc⟩) ?_
        refine hd_tst (p := 0 < c.num.sign) true (fun η => (by kernel_rfl)) (fun η => (by kernel_rfl)) (fun η => (by kernel_rfl)) ⟨fun _ => rfl, fun _ => hcp⟩ ?_
        refine hd_run 3 (fun η => (by kernel_rfl)) ?_
        refine h_K (.one (.int .i64 (cs a b))) (fun η => (by kernel_rfl)) trivial rfl (fun β η S w hS hs hw hG hd => have hb := hG.2.2.2.2.2.2.1.1; have ha := hG.2.2.2.2.2.2.2.1.1; ⟨_, (by kernel_rfl), rcmp_c hS ha hb (big ra (by decide)) (big rb (by decide))⟩) ?_
        refine hd_tst (p := cs a b < 0) false (fun η => (by kernel_rfl)) (fun η => (by kernel_rfl)) (fun η => (by kernel_rfl)) ⟨fun h => absurd h (hlt), fun h => by cases h⟩ ?_
        refine hd_run 7 (fun η => (by kernel_rfl)) ?_
        refine hd_done (fun η => ((Gh.nil).and ((Gh.nil).and ((Gh.nil).and ((ratG (η 32) ((-b))).and ((ratG (η 30) ((-a))).and ((Gh.nil).and ((Gh.nil).and ((ratG vy (a * c + b * c)).and ((ratG vbc (b * c)).and ((ratG vac (a * c)).and ((ratG vx ((a + b) * c)).and ((ratG vab (a + b)).and (((ratG vc c).and (qG vr c)).and (((ratG vb b).and (qG vq b)).and (((ratG va a).and (qG vp a)).and (Gh.nil))))))))))))))))) (by kernel_rfl) (fun η => (by kernel_rfl)) ?_
        intro η_1
        exact s_join () ⟨env_ok, hS⟩ hso (by kernel_rfl) (by kernel_rfl) (fun β => (by kernel_rfl)) (fun β => (by kernel_rfl)) (by kernel_rfl) trivial (fun S w hw hG => ⟨ov_free rfl, fun p hp => by cases hp⟩) (fun S w hw hG => hG.2.2.2.2.2.2.2)
    · refine s_drawn 53 ⟨env_ok, hS⟩ (by kernel_rfl) (by kernel_rfl) (by kernel_rfl) ?_
      refine hd_run 21 (fun η => (by kernel_rfl)) ?_
      refine h_K (.one (.lit .i64 0)) (fun η => (by kernel_rfl)) trivial rfl (fun β η S w hS hs hw hG hd => have hy := hG.1; have hx := hG.2.2.2.1; ⟨_, (by kernel_rfl), gK (rcmp_c hS hx hy (big rx (by decide)) (big ry (by decide))) (congrArg (Value.int .i64) (cs_self (Rat.add_mul a b c)))⟩) ?_
      refine hd_run 5 (fun η => (by kernel_rfl)) ?_
      refine h_K (.one (.int .i64 (cs a b))) (fun η => (by kernel_rfl)) trivial rfl (fun β η S w hS hs hw hG hd => have hb := hG.2.2.2.2.2.2.1.1; have ha := hG.2.2.2.2.2.2.2.1.1; ⟨_, (by kernel_rfl), rcmp_c hS ha hb (big ra (by decide)) (big rb (by decide))⟩) ?_
      refine hd_run 2 (fun η => (by kernel_rfl)) ?_
      refine h_1 (fun x0 => .one (.ag 3 x0)) (fun x0 => ratG x0 ((-a))) (fun η => (by kernel_rfl)) (fun _ _ _ h => ⟨h.ok, rfl⟩) (fun β η S w hS hs hw hG hd => have ha := hG.2.2.2.2.2.2.2.1.1; ⟨_, (by kernel_rfl), rneg_c ha⟩) ?_
      refine hd_run 1 (fun η => (by kernel_rfl)) ?_
      refine h_1 (fun x0 => .one (.ag 3 x0)) (fun x0 => ratG x0 ((-b))) (fun η => (by kernel_rfl)) (fun _ _ _ h => ⟨h.ok, rfl⟩) (fun β η S w hS hs hw hG hd => have hb := hG.2.2.2.2.2.2.1.1; ⟨_, (by kernel_rfl), rneg_c hb⟩) ?_
      refine h_K (.one (.int .i64 (cs (-a) (-b)))) (fun η => (by kernel_rfl)) trivial rfl (fun β η S w hS hs hw hG hd => ⟨_, (by kernel_rfl), rcmp_c hS (dep hd 30 (by kernel_rfl) (by kernel_rfl) : (ratG (η 30) ((-a))).p S w) (dep hd 32 (by kernel_rfl) (by kernel_rfl) : (ratG (η 32) ((-b))).p S w) (rl_neg (big ra (by decide))) (rl_neg (big rb (by decide)))⟩) ?_
      refine hd_run 1 (fun η => (by kernel_rfl)) ?_
      refine hd_tst (p := ¬ ((cs a b < 0) ↔ (0 < cs (-a) (-b)))) false (fun η => (by kernel_rfl)) (fun η => (by kernel_rfl)) (fun η => (by kernel_rfl)) ⟨fun h => absurd h (fun h => h (cs_neg a b)), fun h => by cases h⟩ ?_
      refine hd_run 3 (fun η => (by kernel_rfl)) ?_
      refine h_K (.one (.int .i64 c.num.sign)) (fun η => (by kernel_rfl)) trivial rfl (fun β η S w hS hs hw hG hd => have hc := hG.2.2.2.2.2.1.1; ⟨_, (by kernel_rfl), rsign_c hc⟩) ?_
      refine hd_tst (p := 0 < c.num.sign) false (fun η => (by kernel_rfl)) (fun η => (by kernel_rfl)) (fun η => (by kernel_rfl)) ⟨fun h => absurd h (hcp), fun h => by cases h⟩ ?_
      refine hd_run 12 (fun η => (by kernel_rfl)) ?_
      refine hd_done (fun η => ((Gh.nil).and ((Gh.nil).and ((ratG (η 32) ((-b))).and ((ratG (η 30) ((-a))).and ((Gh.nil).and ((Gh.nil).and ((ratG vy (a * c + b * c)).and ((ratG vbc (b * c)).and ((ratG vac (a * c)).and ((ratG vx ((a + b) * c)).and ((ratG vab (a + b)).and (((ratG vc c).and (qG vr c)).and (((ratG vb b).and (qG vq b)).and (((ratG va a).and (qG vp a)).and (Gh.nil)))))))))))))))) (by kernel_rfl) (fun η => (by kernel_rfl)) ?_
      intro η_1
      exact s_join () ⟨env_ok, hS⟩ hso (by kernel_rfl) (by kernel_rfl) (fun β => (by kernel_rfl)) (fun β => (by kernel_rfl)) (by kernel_rfl) trivial (fun S w hw hG => ⟨ov_free rfl, fun p hp => by cases hp⟩) (fun S w hw hG => hG.2.2.2.2.2.2)
  refine s_K (.one (.int .i64 c.num.sign)) ⟨env_ok, hS⟩ (by kernel_rfl) (by kernel_rfl) trivial rfl (fun β S w hS hs hw hG => have hc := hG.2.2.2.2.2.1.1; ⟨_, (by kernel_rfl), rsign_c hc⟩) ?_
  refine s_mid (ι := Unit) [(4, 4), (21, 22), (146, 159)] (fun _ => []) (fun _ => []) (fun _ => ((ratG vy (a * c + b * c)).and ((ratG vbc (b * c)).and ((ratG vac (a * c)).and ((ratG vx ((a + b) * c)).and ((ratG vab (a + b)).and (((ratG vc c).and (qG vr c)).and (((ratG vb b).and (qG vq b)).and (((ratG va a).and (qG vp a)).and (Gh.nil)))))))))) (fun _ => True) ⟨env_ok, hS⟩ (by kernel_rfl) (fun hso => ?_) (fun _ _ => ?_)
  · refine s_if (p := c.num.sign ≠ 0) ⟨env_ok, hS⟩ (by kernel_rfl) (by kernel_rfl) (by kernel_rfl) (fun hc0 => ?_) (fun hc0 => ?_)
    · have hcn : c.num ≠ 0 := fun e => hc0 (by rw [e]; rfl)
      have e1 : a * c / c = a := rat_back hcn
      refine s_fit (q := a * c / c) (by rw [e1]; exact fits_rl ra (by decide)) ⟨env_ok, hS⟩ (by kernel_rfl) (by kernel_rfl) (fun β S w hS hs hw hG => have hac := hG.2.2.1; have hc := hG.2.2.2.2.2.1.1; ⟨_, (by kernel_rfl), rquo_c hS hac hc (big rac (by decide)) (big rc (by decide)) hcn⟩) ?_
      rintro vq2
      refine s_K (.one (.lit .i64 0)) ⟨env_ok, hS⟩ (by kernel_rfl) (by kernel_rfl) trivial rfl (fun β S w hS hs hw hG => have hq2 := hG.1; have ha := hG.2.2.2.2.2.2.2.2.1.1; ⟨_, (by kernel_rfl), gK (rcmp_c hS hq2 ha (by rw [e1]; exact big ra (by decide)) (big ra (by decide))) (congrArg (Value.int .i64) (cs_self e1))⟩) ?_
      exact s_join () ⟨env_ok, hS⟩ hso (by kernel_rfl) (by kernel_rfl) (fun β => (by kernel_rfl)) (fun β => (by kernel_rfl)) (by kernel_rfl) trivial (fun S w hw hG => ⟨ov_free rfl, fun p hp => by cases hp⟩) (fun S w hw hG => hG.2)
    · exact s_join () ⟨env_ok, hS⟩ hso (by kernel_rfl) (by kernel_rfl) (fun β => (by kernel_rfl)) (fun β => (by kernel_rfl)) (by kernel_rfl) trivial (fun S w hw hG => ⟨ov_free rfl, fun p hp => by cases hp⟩) (fun S w hw hG => hG)
  refine s_one  ⟨env_ok, hS⟩ (by kernel_rfl) (by kernel_rfl) (fun β S w hS hs hw hG => ⟨_, (by kernel_rfl), one_l (most := 100) hS h3 (by decide) (by decide)⟩) ?_
  rintro vp1 vz1 p jp
  refine s_one  ⟨env_ok, hS⟩ (by kernel_rfl) (by kernel_rfl) (fun β S w hS hs hw hG => ⟨_, (by kernel_rfl), one_l (most := 100) hS h4 (by decide) (by decide)⟩) ?_
  rintro vp2 vz2 q jq
  refine s_one  ⟨env_ok, hS⟩ (by kernel_rfl) (by kernel_rfl) (fun β S w hS hs hw hG => ⟨_, (by kernel_rfl), one_l (most := 100) hS h5 (by decide) (by decide)⟩) ?_
  rintro vp3 vz3 r jr
  have lp : zl p ≤ 12 := zl_small jp (by omega)
  have lq : zl q ≤ 12 := zl_small jq (by omega)
  have lr : zl r ≤ 12 := zl_small jr (by omega)
  have lpq : zl (p * q) ≤ 24 := Nat.le_trans (zl_mul p q) (by omega)
  have lx : zl (p * q * r) ≤ 36 := Nat.le_trans (zl_mul (p * q) r) (by omega)
  have lqr : zl (q * r) ≤ 24 := Nat.le_trans (zl_mul q r) (by omega)
  have ly : zl (p * (q * r)) ≤ 36 := Nat.le_trans (zl_mul p (q * r)) (by omega)
  refine s_ifit (big_zl (Nat.le_trans lpq (by decide))) ⟨env_ok, hS⟩ (by kernel_rfl) (by kernel_rfl) (fun β S w hS hs hw hG => have hq := hG.2.1.1; have hp := hG.2.2.1.1; ⟨_, (by kernel_rfl), imul_c hS hp hq (by omega) (by omega)⟩) ?_
  rintro vpq
  refine s_ifit (big_zl (Nat.le_trans lx (by decide))) ⟨env_ok, hS⟩ (by kernel_rfl) (by kernel_rfl) (fun β S w hS hs hw hG => have hpq := hG.1; have hr := hG.2.1.1; ⟨_, (by kernel_rfl), imul_c hS hpq hr (by omega) (by omega)⟩) ?_
  rintro vpqr
  refine s_ifit (big_zl (Nat.le_trans lqr (by decide))) ⟨env_ok, hS⟩ (by kernel_rfl) (by kernel_rfl) (fun β S w hS hs hw hG => have hr := hG.2.2.1.1; have hq := hG.2.2.2.1.1; ⟨_, (by kernel_rfl), imul_c hS hq hr (by omega) (by omega)⟩) ?_
  rintro vqr
  refine s_ifit (big_zl (Nat.le_trans ly (by decide))) ⟨env_ok, hS⟩ (by kernel_rfl) (by kernel_rfl) (fun β S w hS hs hw hG => have hqr := hG.1; have hp := hG.2.2.2.2.2.1.1; ⟨_, (by kernel_rfl), imul_c hS hp hqr (by omega) (by omega)⟩) ?_
  rintro vot
  refine s_K (.one (.lit .i64 0)) ⟨env_ok, hS⟩ (by kernel_rfl) (by kernel_rfl) trivial rfl (fun β S w hS hs hw hG => have hot := hG.1; have hpqr := hG.2.2.1; ⟨_, (by kernel_rfl), gK (icmp_c hS hpqr hot (by omega) (by omega)) (congrArg (Value.int .i64) (ics_self (Int.mul_assoc p q r)))⟩) ?_
  have ld : zl (Int.gcd p q : Int) ≤ 12 := gcd_zl2 lp lq
  refine s_1 (fun x0 => .one (.ag 2 x0)) (fun x0 => intG x0 ((Int.gcd p q : Int))) ⟨env_ok, hS⟩ (by kernel_rfl) (by kernel_rfl) (fun _ _ _ h => ⟨h.ok, rfl⟩) (fun β S w hS hs hw hG => have hq := hG.2.2.2.2.2.1.1; have hp := hG.2.2.2.2.2.2.1.1; ⟨_, (by kernel_rfl), igcd_c hS hp hq (by omega) (by omega)⟩) ?_
  intro vd
  refine s_K (.one (.int .i64 (Int.gcd p q : Int).sign)) ⟨env_ok, hS⟩ (by kernel_rfl) (by kernel_rfl) trivial rfl (fun β S w hS hs hw hG => have hd := hG.1; ⟨_, (by kernel_rfl), sign_c hd⟩) ?_
  refine s_if (p := (Int.gcd p q : Int).sign = 0) ⟨env_ok, hS⟩ (by kernel_rfl) (by kernel_rfl) (by kernel_rfl) (fun hg => ?_) (fun hg => ?_)
  · have hg0 : Int.gcd p q = 0 := by
      have := Int.sign_eq_zero_iff_zero.1 hg
      omega
    obtain ⟨e1, e2⟩ := Int.gcd_eq_zero_iff.1 hg0
    refine s_K (.one (.lit .i64 0)) ⟨env_ok, hS⟩ (by kernel_rfl) (by kernel_rfl) trivial rfl (fun β S w hS hs hw hG => have hp := hG.2.2.2.2.2.2.2.1.1; ⟨_, (by kernel_rfl), gK (sign_c hp) (by rw [e1]; rfl)⟩) ?_
    refine s_K (.one (.lit .i64 0)) ⟨env_ok, hS⟩ (by kernel_rfl) (by kernel_rfl) trivial rfl (fun β S w hS hs hw hG => have hq := hG.2.2.2.2.2.2.1.1; ⟨_, (by kernel_rfl), gK (sign_c hq) (by rw [e2]; rfl)⟩) ?_
    refine s_K (.one (.bb true)) ⟨env_ok, hS⟩ (by kernel_rfl) (by kernel_rfl) trivial rfl (fun β S w hS hs hw hG => ⟨_, (by kernel_rfl), awake_c (ht.to hw)⟩) ?_
    exact s_ret (.bool true) ⟨env_ok, hS⟩ (by kernel_rfl) rfl (by kernel_rfl) (fun β => (by kernel_rfl)) (fun S w hs hw hG => ⟨rfl, hw⟩)
  · have hg0 : Int.gcd p q ≠ 0 := fun e => hg (by rw [e]; rfl)
    have hg1 : (Int.gcd p q : Int) ≠ 0 := by omega
    obtain ⟨e1, e2, e3, e4⟩ := gcd_parts hg0
    have e5 : q / (Int.gcd p q : Int) * (Int.gcd p q : Int) = q := Int.ediv_mul_cancel (Int.gcd_dvd_right ..)
    have lu : zl (p / (Int.gcd p q : Int)) ≤ 12 := div_zl e3 hg1 lp
    have lv : zl (q / (Int.gcd p q : Int)) ≤ 12 := div_zl e5 hg1 lq
    refine s_idiv  ⟨env_ok, hS⟩ (by kernel_rfl) (by kernel_rfl) (fun β S w hS hs hw hG => have hd := hG.1; have hp := hG.2.2.2.2.2.2.2.1.1; ⟨_, (by kernel_rfl), idiv_c hS hp hd (by omega) (by omega) hg1⟩) ?_
    rintro vu vs
    refine s_idiv  ⟨env_ok, hS⟩ (by kernel_rfl) (by kernel_rfl) (fun β S w hS hs hw hG => have hd := hG.2.1; have hq := hG.2.2.2.2.2.2.2.1.1; ⟨_, (by kernel_rfl), idiv_c hS hq hd (by omega) (by omega) hg1⟩) ?_
    rintro vv vt
    refine s_ifit (z := p / (Int.gcd p q : Int) * (Int.gcd p q : Int)) (by rw [e3]; exact big_zl (Nat.le_trans lp (by decide))) ⟨env_ok, hS⟩ (by kernel_rfl) (by kernel_rfl) (fun β S w hS hs hw hG => have hu := hG.2.1.1; have hd := hG.2.2.1; ⟨_, (by kernel_rfl), imul_c hS hu hd (by omega) (by omega)⟩) ?_
    rintro vm
    refine s_K (.one (.lit .i64 0)) ⟨env_ok, hS⟩ (by kernel_rfl) (by kernel_rfl) trivial rfl (fun β S w hS hs hw hG => have hs1 := hG.2.2.1.2; ⟨_, (by kernel_rfl), gK (sign_c hs1) (by rw [e1]; rfl)⟩) ?_
    refine s_K (.one (.lit .i64 0)) ⟨env_ok, hS⟩ (by kernel_rfl) (by kernel_rfl) trivial rfl (fun β S w hS hs hw hG => have hs2 := hG.2.1.2; ⟨_, (by kernel_rfl), gK (sign_c hs2) (by rw [e2]; rfl)⟩) ?_
    refine s_K (.one (.lit .i64 0)) ⟨env_ok, hS⟩ (by kernel_rfl) (by kernel_rfl) trivial rfl (fun β S w hS hs hw hG => have hm := hG.1; have hp := hG.2.2.2.2.2.2.2.2.2.2.1.1; ⟨_, (by kernel_rfl), gK (icmp_c hS hm hp (by rw [e3]; omega) (by omega)) (congrArg (Value.int .i64) (ics_self e3))⟩) ?_
    refine s_1 (fun x0 => .one (.ag 2 x0)) (fun x0 => intG x0 ((Int.gcd (p / (Int.gcd p q : Int)) (q / (Int.gcd p q : Int)) : Int))) ⟨env_ok, hS⟩ (by kernel_rfl) (by kernel_rfl) (fun _ _ _ h => ⟨h.ok, rfl⟩) (fun β S w hS hs hw hG => have hv := hG.2.1.1; have hu := hG.2.2.1.1; ⟨_, (by kernel_rfl), igcd_c hS hu hv (by omega) (by omega)⟩) ?_
    intro vgu
    refine s_1 (fun x0 => .one (.ag 2 x0)) (fun x0 => intG x0 ((1 : Int))) ⟨env_ok, hS⟩ (by kernel_rfl) (by kernel_rfl) (fun _ _ _ h => ⟨h.ok, rfl⟩) (fun β S w hS hs hw hG => ⟨_, (by kernel_rfl), whole_c hS (by decide) (by decide)⟩) ?_
    intro vo
    refine s_K (.one (.lit .i64 0)) ⟨env_ok, hS⟩ (by kernel_rfl) (by kernel_rfl) trivial rfl (fun β S w hS hs hw hG => have ho := hG.1; have hgu := hG.2.1; ⟨_, (by kernel_rfl), gK (icmp_c hS hgu ho (by rw [e4]; decide) (by decide)) (congrArg (Value.int .i64) (ics_self (by rw [e4]; rfl)))⟩) ?_
    refine s_K (.one (.bb true)) ⟨env_ok, hS⟩ (by kernel_rfl) (by kernel_rfl) trivial rfl (fun β S w hS hs hw hG => ⟨_, (by kernel_rfl), awake_c (ht.to hw)⟩) ?_
    exact s_ret (.bool true) ⟨env_ok, hS⟩ (by kernel_rfl) rfl (by kernel_rfl) (fun β => (by kernel_rfl)) (fun S w hs hw hG => ⟨rfl, hw⟩)
end Go.Proofs.YtpmnjjmngogkkaaGreatDoor
end

section
/- What the joins of several statements share. -/
set_option linter.unusedVariables false
namespace Go.Proofs.YtpmnjjmngogkkaaGreatDoor
open Go Go.ChangeShapes Go.WideShapes Go.ChangeAt Go.WideMaps Go.WideElems Go.RowKit

theorem own : ownKnob Tryz.prog.godebug = none := by kernel_rfl
theorem gTab : Tryz.prog.globalNamed "internal/strconv.uint64pow10" = some 3 := by kernel_rfl
theorem tTab : (Tryz.prog.globals[3]?).map (·.type) = some 251 := by kernel_rfl
theorem cTab : Tryz.prog.cellsOf 251 = 20 := by kernel_rfl
theorem cTabE : Tryz.prog.cellsOf 117 = 1 := by kernel_rfl
theorem dTab : (Rows.laid_internal_strconv_uint64pow10 : DataW Unit) = Lib.tabData .u64 Lib.pow10Tab := by rfl
end Go.Proofs.YtpmnjjmngogkkaaGreatDoor
end

section
/- The statement FracLaws, proved: for every six strings, in two arrays of three (of at most 2^47 - 4096 bytes each, as the row reads them) the law returns true and leaves them as they were; the listed tables of the library hold what the program's text lays (the given tie). -/
set_option linter.unusedVariables false
namespace Go.Proofs.YtpmnjjmngogkkaaGreatDoor
open Go Go.ChangeShapes Go.WideShapes Go.ChangeAt Go.WideMaps Go.WideElems Go.RowKit
open Go.ChangeMaps (open_string shut_string)

section
variable {P : Program} {H : Type} {enc : TypeId × Value → H} {W : World} {base : Nat} {sp : Nat → Bool} {held : Bool}
theorem list3 {l : List Value} (h : l.length = 3) : ∃ a b c, l = [a, b, c] := by
  match l, h with
  | [a, b, c], _ => exact ⟨a, b, c, rfl⟩
theorem open_str3 {b0 : Nat} {r : Reach} {t e : TypeId} {v : Value} {d : DataW H} {ps : List MemPlace} (ht : P.underlying t = some (.array 3 e)) (he : P.underlying e = some .string) (hc : P.cellsOf e = 1) (hct : P.cellsOf t = 3)
    (hval : Value.okWide P W r b0 t v) (hd : DataW.Trod enc P W base sp held t v d ps) :
    ∃ s0 s1 s2 : ByteArray, v = .agg #[.string s0, .string s1, .string s2] ∧ d = .agg [.lit (.string s0.data.toList), .lit (.string s1.data.toList), .lit (.string s2.data.toList)] ∧ ps = [] ∧ s0.size ≤ maxLen ∧ s1.size ≤ maxLen ∧ s2.size ≤ maxLen := by
  simp only [Value.okWide, ht] at hval
  obtain ⟨cs, rfl, h2, _⟩ := hval
  obtain ⟨fuel, hf⟩ := hd
  cases fuel with
  | zero => simp [DataW.trod] at hf
  | succ m =>
    obtain ⟨c0, c1, c2, hcs⟩ := list3 (l := cs.toList) (by rw [Array.length_toList, h2, hct])
    have hca : cs = #[c0, c1, c2] := by rw [← Array.toArray_toList (xs := cs), hcs]
    subst hca
    rw [DataW.trod_step] at hf
    unfold DataW.trodStep at hf
    simp only [ht, Value.cells, hct, hc] at hf
    simp only [List.length_cons, List.length_nil, Nat.zero_add, Nat.reduceAdd, if_true] at hf
    simp only [Option.map_eq_some_iff] at hf
    obtain ⟨xs, hx, e1⟩ := hf
    rw [show List.range 3 = [0, 1, 2] from rfl] at hx
    simp only [List.mapM_cons, List.mapM_nil, Option.bind_eq_bind, Option.bind_eq_some_iff, Option.pure_def, Option.some.injEq] at hx
    obtain ⟨x0, f0, ys, ⟨x1, f1, zs, ⟨x2, f2, us, rfl, rfl⟩, rfl⟩, rfl⟩ := hx
    obtain ⟨s0, g0, rfl, q0⟩ := DataW.trod_string he f0
    obtain ⟨s1, g1, rfl, q1⟩ := DataW.trod_string he f1
    obtain ⟨s2, g2, rfl, q2⟩ := DataW.trod_string he f2
    simp at g0 g1 g2
    subst g0 g1 g2
    simp only [Prod.mk.injEq] at e1
    exact ⟨s0, s1, s2, rfl, e1.1.symm, e1.2.symm, q0, q1, q2⟩
theorem shut_str3 {t e : TypeId} {s0 s1 s2 : ByteArray} (ht : P.underlying t = some (.array 3 e)) (he : P.underlying e = some .string) (hc : P.cellsOf e = 1) (hct : P.cellsOf t = 3) (h0 : s0.size ≤ maxLen) (h1 : s1.size ≤ maxLen) (h2 : s2.size ≤ maxLen) :
    DataW.Trod enc P W base sp held t (.agg #[.string s0, .string s1, .string s2]) (.agg [.lit (.string s0.data.toList), .lit (.string s1.data.toList), .lit (.string s2.data.toList)]) [] := by
  refine ⟨2, ?_⟩
  rw [DataW.trod_step]
  unfold DataW.trodStep
  simp only [ht, Value.cells, hct, hc]
  simp only [List.length_cons, List.length_nil, Nat.zero_add, Nat.reduceAdd, if_true]
  rw [show List.range 3 = [0, 1, 2] from rfl]
  have f : ∀ s : ByteArray, s.size ≤ maxLen → DataW.trod enc P W base sp held 1 e [.string s] = some (.lit (.string s.data.toList), []) := fun s hs => by simp [DataW.trod, he, hs]
  simp [List.mapM_cons, f s0 h0, f s1 h1, f s2 h2]
theorem sized_str3 {t e : TypeId} {ts : List TypeId} {ds : List (DataW H)} {j : Nat} {b0 b1 b2 : List UInt8} (ht : P.underlying t = some (.array 3 e)) (h : (DataW.weightsEach P ts ds).all (· ≤ reachBytes) = true) (hj : ts[j]? = some t) (hd : ds[j]? = some (.agg [.lit (.string b0), .lit (.string b1), .lit (.string b2)])) :
    b0.length ≤ 140737488351232 ∧ b1.length ≤ 140737488351232 ∧ b2.length ≤ 140737488351232 := by
  have w : ∀ n, n ∈ [b0.length, b1.length, b2.length] → n ≤ reachBytes := fun n hn => by
    have := List.all_eq_true.1 h _ (DataW.weights_mem_each hj hd n (by simpa [DataW.weights, ht, DataW.weightsAll] using hn))
    simpa using this
  exact ⟨w _ (by simp), w _ (by simp), w _ (by simp)⟩
end
/-- What the condition of the rows with seven listed variables gives the walks. -/
theorem p9_tab {W : World} (h : laidMetH Tryz.prog Rows.fracLawsRow.laid W) : Tab W := by
  rw [MakeChecks.laidMetH_plain _ _ _ (by kernel_rfl)] at h
  obtain ⟨ps, ⟨g0, t0, cs0, f0, p0, q0, hg0, ht0, hv0, hd0, ⟨g1, t1, cs1, f1, p1, q1, hg1, ht1, hv1, hd1, ⟨g2, t2, cs2, f2, p2, q2, hg2, ht2, hv2, hd2, _⟩, _⟩, _⟩, _⟩ := h
  obtain rfl := Option.some.inj (gTab.symm.trans hg2)
  obtain rfl := Option.some.inj (tTab.symm.trans ht2)
  rw [dTab] at hd2
  unfold Tab Lib.TabIs
  rw [hv2, ← Lib.cells_of_tab Tryz.underlying251 Tryz.underlying117 cTabE cTab hd2]
theorem p9_laid (os : Os) (args : Array Value) : laidMetH Tryz.prog Rows.fracLawsRow.laid ((World.laidAll Tryz.prog os Rows.fracLawsRow.laid).forCall (fun _ _ => 0) ⟨#[], args, []⟩).memory := by
  rw [MakeChecks.laidMetH_plain _ _ _ (by kernel_rfl)]
  exact laidMet_laidAll _ (by kernel_rfl) (by kernel_rfl)

set_option maxRecDepth 100000 in
theorem laws_lifted (os : Os) (started : os.Started) (H : Type) (enc : TypeId × Value → H) :
    ReturnsInHanded {} Tryz.checked os 7 .any (fun w args => (Rows.fracLawsSpec.pre enc Tryz.prog Tryz.f7 [] false w args ∧ laidMetH Tryz.prog Rows.fracLawsRow.laid w) ∧ sizedMet enc Tryz.prog Tryz.f7 (OpenSpec.ofChange Rows.fracLawsSpec) false w args)
      (Rows.fracLawsSpec.post enc Tryz.prog Tryz.f7 false true false false) := by
  refine returnsInHanded_of_change_and (C := Tryz.checked) (X := fun w _ => laidMetH Tryz.prog Rows.fracLawsRow.laid w) (fun _ _ _ hh h => h.of_heap hh) own started (by kernel_rfl) Tryz.func7
    (ChangeSpec.witness_shaped (enc := enc) (C := Tryz.checked) (os := os) (X := fun w _ => laidMetH Tryz.prog Rows.fracLawsRow.laid w) false (World.laidAll Tryz.prog os Rows.fracLawsRow.laid) #[.agg #[.string ⟨#[]⟩, .string ⟨#[]⟩, .string ⟨#[]⟩], .agg #[.string ⟨#[]⟩, .string ⟨#[]⟩, .string ⟨#[]⟩]] 8 (World.laidAll_os _ _ _) (World.shaped_of_ZipB (by kernel_rfl) (by kernel_rfl)) (by kernel_rfl) (by kernel_rfl) (by kernel_rfl) (p9_laid os _)) ?_
  intro W base args ds gs before hval0 hW _ hsz0 hL _
  have hval : ∀ (j : Nat) t v, Tryz.f7.params[j]? = some t → args[j]? = some v → Value.okWide Tryz.prog W .any base t v := hval0
  have hW' := hW
  obtain ⟨p, q, hA0, hV, rfl, hfz, hnd⟩ := hW
  have hA : DataW.TrodAll enc Tryz.prog W 0 (fun _ => true) true Tryz.f7.params.toList args.toList ds p := hA0
  have hsz : (DataW.weightsEach Tryz.prog (Tryz.f7.params.toList ++ Rows.fracLawsSpec.plain.varTypes Tryz.prog) (ds ++ gs)).all (· ≤ reachBytes) = true := hsz0
  rw [Tryz.params7] at hA hval hsz
  obtain ⟨v0, v1, d0, d1, p0, p1, rfl, rfl, rfl, h0, h1⟩ := trodAll_two hA
  obtain ⟨rfl, rfl⟩ := trodVars_none hV
  obtain ⟨s0, s1, s2, rfl, rfl, rfl, hs0, hs1, hs2⟩ := open_str3 Tryz.underlying77 Tryz.underlying9 (by kernel_rfl) (by kernel_rfl) (hval 0 77 v0 rfl rfl) h0
  obtain ⟨u0, u1, u2, rfl, rfl, rfl, hu0, hu1, hu2⟩ := open_str3 Tryz.underlying77 Tryz.underlying9 (by kernel_rfl) (by kernel_rfl) (hval 1 77 v1 rfl rfl) h1
  clear hA0 hval0 hsz0
  obtain ⟨ls0, ls1, ls2⟩ := sized_str3 Tryz.underlying77 hsz (j := 0) rfl rfl
  obtain ⟨lu0, lu1, lu2⟩ := sized_str3 Tryz.underlying77 hsz (j := 1) rfl rfl
  simp only [List.append_nil] at hW'
  refine Calls.mono (fracLaws_c (a0 := s0.data.toList) (a1 := s1.data.toList) (a2 := s2.data.toList) (b0 := u0.data.toList) (b1 := u1.data.toList) (b2 := u2.data.toList) (p9_tab hL) ls0 ls1 ls2 lu0 lu1 lu2) fun e W' ⟨v, he, hv, hw⟩ => ?_
  subst he hv
  refine ⟨_, rfl, _, _, _, [], [], [], hW', ?_, ?_, rfl, hw.below.frame _, fun h => by cases h⟩
  · exact trodAll_mk1 (shut_bool Tryz.underlying4 _)
  · exact trodAll_mk2 (shut_str3 Tryz.underlying77 Tryz.underlying9 (by kernel_rfl) (by kernel_rfl) hs0 hs1 hs2) (shut_str3 Tryz.underlying77 Tryz.underlying9 (by kernel_rfl) (by kernel_rfl) hu0 hu1 hu2)

theorem laws_row : Rows.FracLawsSaid :=
  OpenClaim.holds_of_wide 7 Tryz.f7 rfl rfl rfl rfl rfl rfl rfl ⟨rfl, rfl, rfl, rfl, rfl⟩ rfl rfl rfl rfl rfl (by kernel_rfl) Tryz.func7 (by kernel_rfl)
    (of_decide_eq_true (by kernel_rfl)) (by unfold Func.isWrapper; first | (rw [if_pos (by decide +kernel)]; kernel_rfl) | (rw [if_neg (by decide +kernel)]; exact ⟨rfl, rfl⟩))
    (fun os started H enc _ => laws_lifted os started H enc)

theorem laws_holds : Rows.FracLawsCardSaid :=
  Claim7.holds_tied_plain_at .later [] [.data, .data, .data, .data, .sentinel, .sentinel, .pinned] true (true, "650b10b7f83fe311f89b80045fa31e214c315223ee2619adf08cc50f1eb5f2c2") true
    laws_row (fun _ h => by cases h) (by kernel_rfl) (fun _ h => by cases h) fracLaws_row_tie rfl ⟨rfl, rfl⟩ (by kernel_rfl) rfl
    (fun f fn hf hfn => by
      obtain rfl : f = 7 := Option.some.inj ((show Tryz.prog.funcNamed "rabbet/rabbetlaw01.FracLaws" = some 7 by kernel_rfl).symm.trans hf) |>.symm
      obtain rfl : fn = Tryz.f7 := (Option.some.inj (Tryz.func7.symm.trans hfn)).symm
      exact ⟨by kernel_rfl, fun j t ht => by
        rw [Tryz.params7] at ht
        have h3 : t = 77 := by
          rcases j with _ | _ | j
          · simpa using ht.symm
          · simpa using ht.symm
          · simp at ht
        subst h3
        exact (show Tryz.prog.wantsStandIn 77 = false by kernel_rfl)⟩)
    (by kernel_rfl)
#print axioms laws_holds
end Go.Proofs.YtpmnjjmngogkkaaGreatDoor
end
