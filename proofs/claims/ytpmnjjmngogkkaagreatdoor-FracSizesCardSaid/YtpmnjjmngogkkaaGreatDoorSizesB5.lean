/- The statement FracSizes, proved: for every two ints the law returns true and leaves them as they were; the listed tables of the library hold what the program's text lays (the given tie). -/
import Derived.Test.YtpmnjjmngogkkaaGreatDoorSizesB3
import Derived.Laws.IdiomStrings
import Derived.Test.YtpmnjjmngogkkaaGreatDoorSizesB2
import Derived.Test.YtpmnjjmngogkkaaGreatDoorSizesB4
import Derived.Test.YtpmnjjmngogkkaaGreatDoorCards
import Derived.Test.YtpmnjjmngogkkaaGreatDoorTie
import Derived.ProofKit
import Derived.LaidMore
import Derived.OpenShut
import Derived.Stop.Joined
import Derived.SevenTiedAt
import Derived.Lay
section
set_option linter.unusedVariables false
set_option linter.unusedSimpArgs false
namespace Go.Proofs.YtpmnjjmngogkkaaGreatDoor
open Go Go.RowKit
theorem frac_one (P : Nat) (hP : 0 < P) : ((1 : Int) : Rat) / ((P : Int) : Rat) = mkRat 1 P := by
  rw [rat_over _ _ (show ((P : Int) : Rat).num ≠ 0 from by show (P : Int) ≠ 0; omega)]
  show mkRat (1 * (1 : Nat) * (P : Int).sign) (1 * (P : Int).natAbs) = _
  rw [Int.sign_eq_one_of_pos (by omega), Int.natAbs_natCast]
  simp
theorem frac_parts (P : Nat) (hP : 0 < P) : (mkRat 1 P).num.natAbs = 1 ∧ (mkRat 1 P).den = P ∧ (mkRat 1 P).num = 1 := by
  obtain ⟨h1, h2, h3, h4⟩ := mkRat_parts 1 hP
  have hg : Nat.gcd P (1 : Int).natAbs = 1 := Nat.gcd_one_right P
  rw [hg] at h1 h2
  refine ⟨by rw [h1]; rfl, by rw [h2, Nat.div_one], ?_⟩
  have h5 : (mkRat 1 P).num.natAbs = 1 := by rw [h1]; rfl
  have h6 : ¬ (mkRat 1 P).num < 0 := fun h => by have := h3.1 h; omega
  omega
theorem frac_half (P : Nat) (hP : 0 < P) : mkRat 1 P / ((2 : Int) : Rat) = mkRat 1 (2 * P) := by
  obtain ⟨h1, h2, h3⟩ := frac_parts P hP
  rw [rat_over _ _ (show ((2 : Int) : Rat).num ≠ 0 by decide), h2, h3]
  show mkRat (1 * (1 : Nat) * (2 : Int).sign) (P * 2) = _
  rw [show (2 : Int).sign = 1 from rfl, Nat.mul_comm P 2]
  rfl
theorem frac_twice (P : Nat) : ((P : Int) : Rat) + ((P : Int) : Rat) = (((2 * P : Nat) : Int) : Rat) := by
  rw [← Rat.intCast_add]
  congr 1
  omega
theorem one_lt_big : 1 < Big := Nat.lt_of_le_of_lt (by decide) big_pos
theorem rl_P {P k : Nat} (h : zl (P : Int) ≤ k) (hk : 1 ≤ k) : rl ((P : Int) : Rat) k := ⟨h, Nat.le_trans (dl_le (k := 1) (show 1 < 1000000000 ^ 1 by decide)) hk⟩
/-- Ones. -/
theorem ones_dec {N : Nat} (h : 0 < N) : DecL (List.replicate N (49 : UInt8)) := by
  refine ⟨by intro e; have := congrArg List.length e; simp at this; omega, fun c hc => ?_, fun h2 => ?_⟩
  · rw [List.eq_of_mem_replicate hc]; unfold Dig; decide
  · obtain ⟨m, rfl⟩ : ∃ m, N = m + 1 := ⟨N - 1, by omega⟩
    simp [List.replicate_succ] at h2
theorem ones_int {N : Nat} (h : 0 < N) : List.replicate N (49 : UInt8) = Lib.itoa (digV (List.replicate N 49) : Int) := itoa_pos (ones_dec h)
theorem ones_big {N : Nat} {z : Int} (h : 34998 ≤ N) (hz : List.replicate N (49 : UInt8) = Lib.itoa z) : ¬ z.natAbs < Big := by
  refine big_many ?_
  have h1 := itoa_length z
  rw [← hz, List.length_replicate] at h1
  omega
theorem ones_rat {N : Nat} {q : Rat} (h : 34998 ≤ N) (hq : List.replicate N (49 : UInt8) = rstr q) : ¬ Fits q := fun hf => by
  have h47 : (47 : UInt8) ∉ List.replicate N (49 : UInt8) := fun h => by have := List.eq_of_mem_replicate h; cases this
  exact ones_big h ((rstr_none h47 q).1 hq).2 hf.1
theorem wrap_nat (i : Int) : ∃ u : Nat, IntKind.u64.wrap i = (u : Int) := ⟨_, (Int.toNat_of_nonneg (by simp [IntKind.wrap, IntKind.signed, IntKind.bits]; omega)).symm⟩
def tupAt : Value → Value
  | .tuple l => l.getD 0 undef
  | _ => undef
abbrev tryG (v : Value) (q : Rat) (e : Int) : Gh := ⟨fun S w => v = .tuple #[tupAt v, .int .i64 e] ∧ RatV S w (tupAt v) q, fun h k => ⟨h.1, h.2.keep k⟩, fun h k => ⟨h.1, h.2.mono k⟩⟩
abbrev itryG (v : Value) (z : Int) (e : Int) : Gh := ⟨fun S w => v = .tuple #[tupAt v, .int .i64 e] ∧ IntV S 127 .u32 w (tupAt v) z, fun h k => ⟨h.1, h.2.keep k⟩, fun h k => ⟨h.1, h.2.mono k⟩⟩
theorem tryG_ok {v : Value} {q : Rat} {e : Int} {S : Nat → Prop} {w : World} (h : (tryG v q e).p S w) : (pr (.ag 3 (tupAt v)) (.lit .i64 e)).Ok 0 ∧ (pr (.ag 3 (tupAt v)) (.lit .i64 e)).den (fun _ => 0) = v := ⟨ok_pr h.2.ok trivial, h.1.symm⟩
theorem itryG_ok {v : Value} {q : Int} {e : Int} {S : Nat → Prop} {w : World} (h : (itryG v q e).p S w) : (pr (.ag 2 (tupAt v)) (.lit .i64 e)).Ok 0 ∧ (pr (.ag 2 (tupAt v)) (.lit .i64 e)).den (fun _ => 0) = v := ⟨ok_pr h.2.ok trivial, h.1.symm⟩
theorem try_g {P : Program} {f : FuncId} {args : List Value} {S : Nat → Prop} {w : World} {q X : Rat} {E : Int} (d : DoneOk X E q) (h : Gives P f args w fun v w' => Ext w w' ∧ Tried S w' v q) : Gives P f args w fun v w' => Ext w w' ∧ (tryG v X E).p S w' :=
  h.mono fun v w' ⟨k, r, e, hv, ht⟩ => ⟨k, by
    subst hv
    rcases d with ⟨h1, rfl, rfl⟩ | ⟨h1, rfl, rfl⟩ <;> rcases ht with ⟨h4, rfl, h6⟩ | ⟨h4, rfl, h6⟩ <;> first | exact ⟨rfl, h6⟩ | exact absurd h1 h4 | exact absurd h4 h1⟩
theorem dbl_g {S : Nat → Prop} {w : World} {I : Int} (M P : Nat) {E X : Int} (hn : M ≤ 100001) (hP : P = 2 ^ M) (hI : I = (M : Int)) (hS : Up S w) (hd : (M < 100000 ∧ E = 0 ∧ X = (P : Int)) ∨ (100000 ≤ M ∧ E = 11 ∧ X = 0)) :
    Gives Tryz.prog 51 [.int .i64 I] w fun v w' => Ext w w' ∧ (itryG v X E).p S w' :=
  (dbl_c M P I hn hP hI hS).mono fun v w' ⟨k, e, x, m, hv, hx, hm⟩ => ⟨k, by
    subst hv
    have : e = E ∧ x = X := by
      rcases hd with ⟨_, rfl, rfl⟩ | ⟨_, rfl, rfl⟩ <;> rcases hx with ⟨_, rfl, rfl⟩ | ⟨_, rfl, rfl⟩ <;> first | exact ⟨rfl, rfl⟩ | omega
    obtain ⟨rfl, rfl⟩ := this
    exact ⟨rfl, m, rfl, hm⟩⟩
theorem parse_g {S : Nat → Prop} {w : World} {N : Nat} {E : Int} (hN : 34998 ≤ N) (hN2 : N ≤ 100000) (hS : Up S w) (hE : E = if 70000 < N then 2 else 11) :
    Gives Tryz.prog 53 [strV (List.replicate N 49)] w fun v w' => Ext w w' ∧ (tryG v 0 E).p S w' :=
  (rparse_c hS (by simp; omega)).mono fun v w' ⟨k, c1⟩ => ⟨k, by
    rcases c1 with ⟨h, rfl⟩ | ⟨h, hq, _⟩ | ⟨h, q, hq, r, e, rfl, ht⟩
    · rw [List.length_replicate] at h
      rw [hE, if_pos h]
      exact ⟨rfl, zero_rat⟩
    · exact absurd ((ones_int (N := N) (by omega)).trans (rstr_int (q := ((digV (List.replicate N 49) : Int) : Rat)) rfl).symm) (hq _)
    · rw [List.length_replicate] at h
      rw [hE, if_neg (by omega)]
      rcases ht with ⟨h4, _, _⟩ | ⟨_, rfl, h6⟩
      · exact absurd h4 (ones_rat hN hq)
      · exact ⟨rfl, h6⟩⟩
theorem iparse_g {S : Nat → Prop} {w : World} {N : Nat} {E : Int} (hN : 34998 ≤ N) (hN2 : N ≤ 100000) (hS : Up S w) (hE : E = if 35000 < N then 2 else 11) :
    Gives Tryz.prog 54 [strV (List.replicate N 49)] w fun v w' => Ext w w' ∧ (itryG v 0 E).p S w' :=
  (iparse_c hS (by simp; omega)).mono fun v w' ⟨k, c1⟩ => ⟨k, by
    rcases c1 with ⟨h, rfl⟩ | ⟨h, hq, _⟩ | ⟨h, q, hq, r, e, rfl, ht⟩
    · rw [List.length_replicate] at h
      rw [hE, if_pos h]
      exact ⟨rfl, zero_int⟩
    · exact absurd (ones_int (N := N) (by omega)) (hq _)
    · rw [List.length_replicate] at h
      rw [hE, if_neg (by omega)]
      rcases ht with ⟨h4, _, _⟩ | ⟨_, rfl, h6⟩
      · exact absurd h4 (ones_big hN hq)
      · exact ⟨rfl, h6⟩⟩
theorem wrap_big (i : Int) : 0 ≤ IntKind.u64.wrap i := by obtain ⟨u, hu⟩ := wrap_nat i; omega
/-- The first j of N bytes are ones. -/
def onesTo (N j : Nat) : List Value := bytL (List.replicate j 49 ++ List.replicate (N - j) 0)
theorem onesTo_zero (N : Nat) : zerosL [.lit .u8 0] 1 N = onesTo N 0 := by
  unfold zerosL onesTo bytL
  rw [Nat.mul_one]
  have := toList_madeCells_one (.int .u8 0) N
  simpa [cellsL, Ch.cells, Ch.den] using this
theorem onesTo_succ {N j : Nat} (h : j < N) (β : Nat → Nat) : (onesTo N j).take j ++ cellsL β [.lit .u8 49] ++ (onesTo N j).drop (j + 1) = onesTo N (j + 1) := by
  obtain ⟨m, rfl⟩ : ∃ m, N = j + 1 + m := ⟨N - (j + 1), by omega⟩
  have e1 : j + 1 + m - j = m + 1 := by omega
  have e2 : j + 1 + m - (j + 1) = m := by omega
  unfold onesTo bytL
  rw [e1, e2]
  simp only [List.map_append, List.map_replicate, List.replicate_succ (n := m)]
  rw [List.take_left' (by simp), List.drop_append, List.drop_eq_nil_of_le (by simp)]
  simp [cellsL, Ch.cells, Ch.den, List.replicate_succ']
theorem onesTo_all (N : Nat) : onesTo N N = bytL (List.replicate N 49) := by unfold onesTo; simp
theorem onesTo_take {N k : Nat} (h : k ≤ N) : ((onesTo N N).drop (0 * 1)).take ((k - 0) * 1) = bytL (List.replicate k 49) := by
  rw [onesTo_all]
  unfold bytL
  simp [List.take_replicate, Nat.min_eq_left h]
section
variable {c : Cx} {o : Out} {G : Gh}
theorem row_at {β : Nat → Nat} {w : World} (b : Nat) (T : TypeId) (s n : Nat) (v : Value) (cs : List Value) (hb : nth o.st.hp b = some (.row T s v n cs)) (hM : Mem c.w0.heap.size o.st.hp β w) : ∃ S', Row S' T s w v n cs := own_row (row_of hb hM)
def intAt (st : St) (d : Nat) : Option Int := match look st.fr d with | some (.one (.int .i64 z)) => some z | _ => none
theorem t_setI (d : Nat) (a b : Int) (hq : intAt o.st d = some a) (h : a = b) (k : Run c (setSlot o d (.one (.int .i64 b))) G) : Run c o G := by
  subst h
  refine t_set d (.one (.int .i64 a)) (fun β => ?_) trivial k
  unfold intAt at hq
  split at hq <;> first | (cases hq; done) | skip
  rename_i z hl
  simp only [Option.some.injEq] at hq
  subst hq
  unfold slotV
  rw [hl]
  rfl
end
set_option maxRecDepth 100000 in
set_option maxHeartbeats 4000000 in
theorem fracSizes_c {w : World} {i kk : Int} (ht : Tab w) :
    Gives Tryz.prog 6 [.int .i64 i, .int .i64 kk] w fun v' w' => v' = .bool true ∧ Ext w w' := by
  have hS : Up All w := Up.all
  obtain ⟨u, hu⟩ := wrap_nat i
  obtain ⟨u2, hu2⟩ := wrap_nat kk
  obtain ⟨M, hM⟩ : ∃ M : Nat, M = 99998 + u2 % 4 := ⟨_, rfl⟩
  obtain ⟨P, hP⟩ : ∃ P, P = 2 ^ M := ⟨_, rfl⟩
  have hfit : P < Big ↔ M < 100000 := by rw [hP, two_lt_big]
  have hfit2 : 2 * P < Big ↔ M + 1 < 100000 := by rw [hP, ← Nat.pow_succ', two_lt_big]
  have hP0 : 0 < P := by rw [hP]; exact Nat.pow_pos (by decide)
  have hzP := zl_two' M P hP
  have hbig := one_lt_big
  obtain ⟨n, hn⟩ : ∃ n : Nat, n = u % 4 := ⟨_, rfl⟩
  refine t_gives (E := env) (S0 := All) (G := Gh.nil) (l := [.one (.int .i64 (i)), .one (.int .i64 (kk))]) Tryz.func6 rfl rfl rfl ⟨trivial, trivial, trivial⟩ rfl trivial ?_
  refine s_vc (ps := [InR .i64 (99998 + IntKind.u64.wrap kk % 4), InR .i64 (IntKind.u64.wrap kk % 4), 0 ≤ IntKind.u64.wrap kk ∧ (0 : Int) < 4, InR .i64 (IntKind.u64.wrap i % 4), 0 ≤ IntKind.u64.wrap i ∧ (0 : Int) < 4]) ⟨env_ok, hS⟩ (by kernel_rfl) (by rw [hu, hu2]; simp only [AllT, InR, and_true]; omega) ?_
  refine s_go ⟨env_ok, hS⟩ (by kernel_rfl) (t_setI 6 (99998 + IntKind.u64.wrap kk % 4) ((M : Int)) (by kernel_rfl) (by rw [hu2, hM]; omega) ?_)
  refine s_go ⟨env_ok, hS⟩ (by kernel_rfl) (t_setI 5 (IntKind.u64.wrap i % 4) ((n : Int)) (by kernel_rfl) (by rw [hu, hn]; omega) ?_)
  refine s_midK (ι := Unit) 2 2 [(4, 4), (7, 15), (31, 111)] (fun _ => []) (fun _ => []) (fun _ => Gh.nil) (fun _ => True) ⟨env_ok, hS⟩ (by kernel_rfl) (by kernel_rfl) (fun hso => ?_) (fun _ _ => ?_)
  · by_cases hlt : M < 100000
    · refine s_1 (fun x0 => pr (.ag 2 (tupAt x0)) (.lit .i64 0)) (fun x0 => itryG x0 ((P : Int)) 0) ⟨env_ok, hS⟩ (by kernel_rfl) (by kernel_rfl) (fun _ _ _ h => itryG_ok h) (fun β S w hS hs hw hG => ⟨_, (by kernel_rfl), dbl_g M P (I := 99998 + IntKind.u64.wrap kk % 4) (by omega) hP (by rw [hu2, hM]; omega) hS (.inl ⟨hlt, rfl, rfl⟩)⟩) ?_
      intro va
      refine s_slot_no (p := ¬ ((false = true) ↔ (100000 : Int) ≤ (M : Int))) 41 ⟨env_ok, hS⟩ (by kernel_rfl) (by kernel_rfl) (fun h => h ⟨nofun, fun h => by omega⟩) ?_
      have rP : rl ((P : Int) : Rat) 400000000000 := rl_P (Nat.le_trans hzP (by omega)) (by omega)
      have r1 : rl ((1 : Int) : Rat) 400000000000 := rl_one (by decide)
      obtain ⟨q1, hq1⟩ : ∃ q, q = mkRat 1 P := ⟨_, rfl⟩
      obtain ⟨p1, p2, p3⟩ := frac_parts P hP0
      obtain ⟨q2, hq2⟩ : ∃ q, q = mkRat 1 (2 * P) := ⟨_, rfl⟩
      obtain ⟨p4, p5, p6⟩ := frac_parts (2 * P) (by omega)
      have e1 : ((1 : Int) : Rat) / ((P : Int) : Rat) = q1 := by rw [frac_one P hP0, hq1]
      have e2 : q1 / ((2 : Int) : Rat) = q2 := by rw [hq1, frac_half P hP0, hq2]
      rw [← hq1] at p1 p2 p3
      rw [← hq2] at p4 p5 p6
      have rq1 : rl q1 400000000000 := by
        refine ⟨by rw [p1]; exact Nat.le_trans (dl_le (k := 1) (show 1 < 1000000000 ^ 1 by decide)) (by decide), ?_⟩
        rw [p2]
        unfold zl at hzP
        rw [Int.natAbs_natCast] at hzP
        omega
      have r2 : rl ((2 : Int) : Rat) 400000000000 := ⟨Nat.le_trans (dl_le (k := 1) (show 2 < 1000000000 ^ 1 by decide)) (by decide), Nat.le_trans (dl_le (k := 1) (show 1 < 1000000000 ^ 1 by decide)) (by decide)⟩
      have d1 : DoneOk q1 0 (((1 : Int) : Rat) / ((P : Int) : Rat)) := .inl ⟨by rw [e1]; exact ⟨by rw [p1]; exact hbig, by rw [p2]; exact hfit.2 hlt⟩, rfl, e1.symm⟩
      obtain ⟨T, hT⟩ : ∃ T : Rat, T = (((2 * P : Nat) : Int) : Rat) := ⟨_, rfl⟩
      have eT : ((P : Int) : Rat) + ((P : Int) : Rat) = T := by rw [frac_twice, hT]
      have nT : T.num.natAbs = 2 * P ∧ T.den = 1 := by rw [hT]; exact ⟨Int.natAbs_natCast _, rfl⟩
      have hPn : ((P : Int) : Rat).num ≠ 0 := by show (P : Int) ≠ 0; omega
      refine s_1 (fun x0 => .one (.ag 3 x0)) (fun x0 => ratG x0 (((P : Int) : Rat))) ⟨env_ok, hS⟩ (by kernel_rfl) (by kernel_rfl) (fun _ _ _ h => ⟨h.ok, rfl⟩) (fun β S w hS hs hw hG => have ha := hG.1; ⟨_, (by kernel_rfl), from_c hS ha.2⟩) ?_
      intro vr
      refine s_drawn 8 ⟨env_ok, hS⟩ (by kernel_rfl) (by kernel_rfl) (by kernel_rfl) ?_
      refine h_1 (fun x0 => .one (.ag 3 x0)) (fun x0 => ratG x0 (((1 : Int) : Rat))) (fun η => (by kernel_rfl)) (fun _ _ _ h => ⟨h.ok, rfl⟩) (fun β η S w hS hs hw hG hd => ⟨_, (by kernel_rfl), of_c hS (by decide) (by decide)⟩) ?_
      refine hd_run 1 (fun η => (by kernel_rfl)) ?_
      refine h_1 (fun x0 => pr (.ag 3 (tupAt x0)) (.lit .i64 0)) (fun x0 => tryG x0 (q1) 0) (fun η => (by kernel_rfl)) (fun _ _ _ h => tryG_ok h) (fun β η S w hS hs hw hG hd => have hr := hG.1; ⟨_, (by kernel_rfl), try_g d1 (rquo_c hS (dep hd 0 (by kernel_rfl) (by kernel_rfl) : (ratG (η 0) (((1 : Int) : Rat))).p S w) hr r1 rP hPn)⟩) ?_
      refine hd_run 5 (fun η => (by kernel_rfl)) ?_
      refine hd_done (fun η => ((tryG (η 2) (q1) 0).and ((ratG (η 0) (((1 : Int) : Rat))).and ((ratG vr (((P : Int) : Rat))).and ((itryG va ((P : Int)) 0).and (Gh.nil)))))) (by kernel_rfl) (fun η => (by kernel_rfl)) ?_
      intro η_1
      by_cases h1 : M + 1 < 100000
      · have dT : DoneOk T 0 (((P : Int) : Rat) + ((P : Int) : Rat)) := .inl ⟨by rw [eT]; exact ⟨by rw [nT.1]; exact hfit2.2 h1, by rw [nT.2]; exact hbig⟩, rfl, eT.symm⟩
        have d2 : DoneOk q2 0 (q1 / ((2 : Int) : Rat)) := .inl ⟨by rw [e2]; exact ⟨by rw [p4]; exact hbig, by rw [p5]; exact hfit2.2 h1⟩, rfl, e2.symm⟩
        refine s_1 (fun x0 => pr (.ag 3 (tupAt x0)) (.lit .i64 0)) (fun x0 => tryG x0 (T) 0) ⟨env_ok, hS⟩ (by kernel_rfl) (by kernel_rfl) (fun _ _ _ h => tryG_ok h) (fun β S w hS hs hw hG => have hr := hG.2.2.1; ⟨_, (by kernel_rfl), try_g dT (radd_c hS hr hr rP rP)⟩) ?_
        intro vT
        refine s_drawn 8 ⟨env_ok, hS⟩ (by kernel_rfl) (by kernel_rfl) (by kernel_rfl) ?_
        refine hd_run 1 (fun η => (by kernel_rfl)) ?_
        refine h_1 (fun x0 => .one (.ag 3 x0)) (fun x0 => ratG x0 (((2 : Int) : Rat))) (fun η => (by kernel_rfl)) (fun _ _ _ h => ⟨h.ok, rfl⟩) (fun β η S w hS hs hw hG hd => ⟨_, (by kernel_rfl), of_c hS (by decide) (by decide)⟩) ?_
        refine h_1 (fun x0 => pr (.ag 3 (tupAt x0)) (.lit .i64 0)) (fun x0 => tryG x0 (q2) 0) (fun η => (by kernel_rfl)) (fun _ _ _ h => tryG_ok h) (fun β η S w hS hs hw hG hd => have hq := hG.2.1; ⟨_, (by kernel_rfl), try_g d2 (rquo_c hS hq.2 (dep hd 1 (by kernel_rfl) (by kernel_rfl) : (ratG (η 1) (((2 : Int) : Rat))).p S w) rq1 r2 (by decide))⟩) ?_
        refine hd_run 5 (fun η => (by kernel_rfl)) ?_
        refine hd_done (fun η => ((tryG (η 2) (q2) 0).and ((ratG (η 1) (((2 : Int) : Rat))).and ((tryG vT (T) 0).and ((tryG (η_1 2) (q1) 0).and ((ratG (η_1 0) (((1 : Int) : Rat))).and ((ratG vr (((P : Int) : Rat))).and ((itryG va ((P : Int)) 0).and (Gh.nil))))))))) (by kernel_rfl) (fun η => (by kernel_rfl)) ?_
        intro η_2
        refine s_vc (ps := [InR .i64 ((M : Int) + 1)]) ⟨env_ok, hS⟩ (by kernel_rfl) (by simp only [AllT, InR, and_true]; omega) ?_
        refine s_slot_no (p := ¬ ((false = true) ↔ (100000 : Int) ≤ (M : Int) + 1)) 86 ⟨env_ok, hS⟩ (by kernel_rfl) (by kernel_rfl) (fun h => h ⟨nofun, fun h => by omega⟩) ?_
        refine s_vc (ps := [InR .i64 ((M : Int) + 1)]) ⟨env_ok, hS⟩ (by kernel_rfl) (by simp only [AllT, InR, and_true]; omega) ?_
        refine s_slot_no (p := ¬ ((false = true) ↔ (100000 : Int) ≤ (M : Int) + 1)) 94 ⟨env_ok, hS⟩ (by kernel_rfl) (by kernel_rfl) (fun h => h ⟨nofun, fun h => by omega⟩) ?_
        exact s_join () ⟨env_ok, hS⟩ hso (by kernel_rfl) (by kernel_rfl) (fun β => (by kernel_rfl)) (fun β => (by kernel_rfl)) (by kernel_rfl) trivial (fun S w hw hG => ⟨ov_free rfl, fun p hp => by cases hp⟩) (fun S w hw hG => hG.2.2.2.2.2.2.2)
      · have dT : DoneOk 0 11 (((P : Int) : Rat) + ((P : Int) : Rat)) := .inr ⟨fun h2 => h1 (hfit2.1 (by rw [← nT.1, ← eT]; exact h2.1)), rfl, rfl⟩
        have d2 : DoneOk 0 11 (q1 / ((2 : Int) : Rat)) := .inr ⟨fun h2 => h1 (hfit2.1 (by rw [← p5, ← e2]; exact h2.2)), rfl, rfl⟩
        refine s_1 (fun x0 => pr (.ag 3 (tupAt x0)) (.lit .i64 11)) (fun x0 => tryG x0 ((0 : Rat)) 11) ⟨env_ok, hS⟩ (by kernel_rfl) (by kernel_rfl) (fun _ _ _ h => tryG_ok h) (fun β S w hS hs hw hG => have hr := hG.2.2.1; ⟨_, (by kernel_rfl), try_g dT (radd_c hS hr hr rP rP)⟩) ?_
        intro vT
        refine s_drawn 8 ⟨env_ok, hS⟩ (by kernel_rfl) (by kernel_rfl) (by kernel_rfl) ?_
        refine hd_run 1 (fun η => (by kernel_rfl)) ?_
        refine h_1 (fun x0 => .one (.ag 3 x0)) (fun x0 => ratG x0 (((2 : Int) : Rat))) (fun η => (by kernel_rfl)) (fun _ _ _ h => ⟨h.ok, rfl⟩) (fun β η S w hS hs hw hG hd => ⟨_, (by kernel_rfl), of_c hS (by decide) (by decide)⟩) ?_
        refine h_1 (fun x0 => pr (.ag 3 (tupAt x0)) (.lit .i64 11)) (fun x0 => tryG x0 ((0 : Rat)) 11) (fun η => (by kernel_rfl)) (fun _ _ _ h => tryG_ok h) (fun β η S w hS hs hw hG hd => have hq := hG.2.1; ⟨_, (by kernel_rfl), try_g d2 (rquo_c hS hq.2 (dep hd 1 (by kernel_rfl) (by kernel_rfl) : (ratG (η 1) (((2 : Int) : Rat))).p S w) rq1 r2 (by decide))⟩) ?_
        refine hd_run 5 (fun η => (by kernel_rfl)) ?_
        refine hd_done (fun η => ((tryG (η 2) ((0 : Rat)) 11).and ((ratG (η 1) (((2 : Int) : Rat))).and ((tryG vT ((0 : Rat)) 11).and ((tryG (η_1 2) (q1) 0).and ((ratG (η_1 0) (((1 : Int) : Rat))).and ((ratG vr (((P : Int) : Rat))).and ((itryG va ((P : Int)) 0).and (Gh.nil))))))))) (by kernel_rfl) (fun η => (by kernel_rfl)) ?_
        intro η_2
        refine s_vc (ps := [InR .i64 ((M : Int) + 1)]) ⟨env_ok, hS⟩ (by kernel_rfl) (by simp only [AllT, InR, and_true]; omega) ?_
        refine s_slot_no (p := ¬ ((true = true) ↔ (100000 : Int) ≤ (M : Int) + 1)) 86 ⟨env_ok, hS⟩ (by kernel_rfl) (by kernel_rfl) (fun h => h ⟨fun _ => by omega, fun _ => rfl⟩) ?_
        refine s_vc (ps := [InR .i64 ((M : Int) + 1)]) ⟨env_ok, hS⟩ (by kernel_rfl) (by simp only [AllT, InR, and_true]; omega) ?_
        refine s_slot_no (p := ¬ ((true = true) ↔ (100000 : Int) ≤ (M : Int) + 1)) 94 ⟨env_ok, hS⟩ (by kernel_rfl) (by kernel_rfl) (fun h => h ⟨fun _ => by omega, fun _ => rfl⟩) ?_
        refine s_K (.one (.lit .i64 0)) ⟨env_ok, hS⟩ (by kernel_rfl) (by kernel_rfl) trivial rfl (fun β S w hS hs hw hG => have hT := hG.2.2.1; ⟨_, (by kernel_rfl), gK (rsign_c hT.2) rfl⟩) ?_
        refine s_K (.one (.lit .i64 0)) ⟨env_ok, hS⟩ (by kernel_rfl) (by kernel_rfl) trivial rfl (fun β S w hS hs hw hG => have hY := hG.1; ⟨_, (by kernel_rfl), gK (rsign_c hY.2) rfl⟩) ?_
        exact s_join () ⟨env_ok, hS⟩ hso (by kernel_rfl) (by kernel_rfl) (fun β => (by kernel_rfl)) (fun β => (by kernel_rfl)) (by kernel_rfl) trivial (fun S w hw hG => ⟨ov_free rfl, fun p hp => by cases hp⟩) (fun S w hw hG => hG.2.2.2.2.2.2.2)
    · refine s_1 (fun x0 => pr (.ag 2 (tupAt x0)) (.lit .i64 11)) (fun x0 => itryG x0 ((0 : Int)) 11) ⟨env_ok, hS⟩ (by kernel_rfl) (by kernel_rfl) (fun _ _ _ h => itryG_ok h) (fun β S w hS hs hw hG => ⟨_, (by kernel_rfl), dbl_g M P (I := 99998 + IntKind.u64.wrap kk % 4) (by omega) hP (by rw [hu2, hM]; omega) hS (.inr ⟨by omega, rfl, rfl⟩)⟩) ?_
      intro va
      refine s_slot_no (p := ¬ ((true = true) ↔ (100000 : Int) ≤ (M : Int))) 41 ⟨env_ok, hS⟩ (by kernel_rfl) (by kernel_rfl) (fun h => h ⟨fun _ => by omega, fun _ => rfl⟩) ?_
      refine s_K (.one (.lit .i64 0)) ⟨env_ok, hS⟩ (by kernel_rfl) (by kernel_rfl) trivial rfl (fun β S w hS hs hw hG => have ha := hG.1; ⟨_, (by kernel_rfl), gK (sign_c ha.2) rfl⟩) ?_
      exact s_join () ⟨env_ok, hS⟩ hso (by kernel_rfl) (by kernel_rfl) (fun β => (by kernel_rfl)) (fun β => (by kernel_rfl)) (by kernel_rfl) trivial (fun S w hw hG => ⟨ov_free rfl, fun p hp => by cases hp⟩) (fun S w hw hG => hG.2)
  refine s_vc (ps := [0 ≤ IntKind.u64.wrap i ∧ (0 : Int) < 8]) ⟨env_ok, hS⟩ (by kernel_rfl) (by have := wrap_big i; simp only [AllT, and_true]; omega) ?_
  refine s_if (p := 0 < IntKind.u64.wrap i % 8) ⟨env_ok, hS⟩ (by kernel_rfl) (by kernel_rfl) (by kernel_rfl) (fun h8 => ?_) (fun h8 => ?_)
  · refine s_K (.one (.bb true)) ⟨env_ok, hS⟩ (by kernel_rfl) (by kernel_rfl) trivial rfl (fun β S w hS hs hw hG => ⟨_, (by kernel_rfl), awake_c (ht.to hw)⟩) ?_
    exact s_ret (.bool true) ⟨env_ok, hS⟩ (by kernel_rfl) rfl (by kernel_rfl) (fun β => (by kernel_rfl)) (fun S w hs hw hG => ⟨rfl, hw⟩)
  · obtain ⟨N, hN⟩ : ∃ N : Nat, N = 69998 + n := ⟨_, rfl⟩
    obtain ⟨N2, hN2⟩ : ∃ N : Nat, N = 34998 + n := ⟨_, rfl⟩
    refine s_vc (ps := [InR .i64 (69998 + (n : Int))]) ⟨env_ok, hS⟩ (by kernel_rfl) (by simp only [AllT, InR, and_true]; omega) ?_
    refine s_go ⟨env_ok, hS⟩ (by kernel_rfl) (t_make N (69998 + (n : Int)) (69998 + (n : Int)) 5 1 1 [.lit .u8 0] (onesTo N 0) (by kernel_rfl) ⟨env_ok, hS⟩ (by omega) (by omega) (by omega) (by unfold maxLen; omega) (onesTo_zero N)  ?_)
    intro v
    refine s_loop (ι := Nat) [(17, 17), (120, 125), (126, 128)] (fun j => [(17, .one (.int .i64 (j : Int)))]) (fun j => [(0, .row 5 1 v N (onesTo N j))]) (fun _ => Gh.nil) (fun j => j ≤ N) (fun j => N - j) 0 ⟨env_ok, hS⟩ (by kernel_rfl) (by kernel_rfl) (fun β => (by kernel_rfl)) (fun β => (by kernel_rfl)) (by kernel_rfl) (Nat.zero_le _)
      (fun S w hw hG => ⟨ov_free rfl, fun p hp => by simp only [List.mem_singleton] at hp; subst hp; trivial⟩) (fun S w hw hG => trivial) (fun hso j hj => ?_)
    refine s_if (p := (j : Int) < (N : Int)) ⟨env_ok, hS⟩ (by kernel_rfl) (by kernel_rfl) (by kernel_rfl) (fun hlt => ?_) (fun hlt => ?_)
    · refine s_go ⟨env_ok, hS⟩ (by kernel_rfl) (t_idx v N (j : Int) 5 1 (by kernel_rfl) ⟨env_ok, hS⟩ (by omega) hlt (fun β S w hM hw hG => let ⟨S', h⟩ := row_at 0 5 1 N v (onesTo N j) (by kernel_rfl) hM; ⟨S', _, h⟩) ?_)
      refine s_go ⟨env_ok, hS⟩ (by kernel_rfl) (t_st (T := 5) (s := 1) (n := N) (cs := onesTo N j) 0 ((j : Int).toNat * 1) v 1 [.lit .u8 49] (onesTo N (j + 1)) (by kernel_rfl) (by kernel_rfl) ⟨env_ok, hS⟩ (by decide) (by omega) (fun β S w hw hG => by rw [show (j : Int).toNat * 1 = j by omega]; exact onesTo_succ (by omega) β)  ?_)
      refine s_vc (ps := [InR .i64 ((j : Int) + 1)]) ⟨env_ok, hS⟩ (by kernel_rfl) (by simp only [AllT, InR, and_true]; omega) ?_
      exact s_again (j + 1) ⟨env_ok, hS⟩ hso (by kernel_rfl) (by kernel_rfl) (fun β => (by kernel_rfl)) (fun β => (by kernel_rfl)) (by kernel_rfl) (by omega) (by omega) (fun S w hw hG => ⟨ov_free rfl, fun p hp => by simp only [List.mem_singleton] at hp; subst hp; trivial⟩) (fun S w hw hG => trivial)
    · refine s_out ⟨env_ok, hS⟩ (by kernel_rfl) (by kernel_rfl) ?_
      obtain rfl : j = N := by omega
      refine s_go ⟨env_ok, hS⟩ (by kernel_rfl) (t_str v j (List.replicate j 49) (by kernel_rfl) ⟨env_ok, hS⟩ (fun β S w hM hw hG => let ⟨S', h⟩ := row_at 0 5 1 j v (onesTo j j) (by kernel_rfl) hM; ⟨S', _, onesTo_all j ▸ h⟩) ?_)
      by_cases h7 : 70000 < j
      · refine s_1 (fun x0 => pr (.ag 3 (tupAt x0)) (.lit .i64 2)) (fun x0 => tryG x0 ((0 : Rat)) 2) ⟨env_ok, hS⟩ (by kernel_rfl) (by kernel_rfl) (fun _ _ _ h => tryG_ok h) (fun β S w hS hs hw hG => ⟨_, (by kernel_rfl), parse_g (N := j) (by omega) (by omega) hS (by rw [if_pos h7])⟩) ?_
        intro vb
        refine s_vc (ps := [InR .i64 (34998 + (n : Int))]) ⟨env_ok, hS⟩ (by kernel_rfl) (by simp only [AllT, InR, and_true]; omega) ?_
        refine s_go ⟨env_ok, hS⟩ (by kernel_rfl) (t_give 0 5 1 j v (onesTo j j) (by kernel_rfl) ⟨env_ok, hS⟩  ?_)
        refine s_go ⟨env_ok, hS⟩ (by kernel_rfl) (t_win v j 0 (34998 + (n : Int)) 5 1 0 N2 (onesTo j j) (by kernel_rfl) ⟨env_ok, hS⟩ rfl (by omega) (by omega) (by omega) (fun S w hw hG => have hrow := hG.1; hrow) ?_)
        intro v2
        refine s_go ⟨env_ok, hS⟩ (by kernel_rfl) (t_str v2 (N2 - 0) (List.replicate N2 49) (by kernel_rfl) ⟨env_ok, hS⟩ (fun β S w hM hw hG => have hrow2 := hG.1; ⟨_, _, onesTo_take (N := j) (k := N2) (by omega) ▸ hrow2⟩) ?_)
        refine s_1 (fun x0 => pr (.ag 2 (tupAt x0)) (.lit .i64 2)) (fun x0 => itryG x0 ((0 : Int)) 2) ⟨env_ok, hS⟩ (by kernel_rfl) (by kernel_rfl) (fun _ _ _ h => itryG_ok h) (fun β S w hS hs hw hG => ⟨_, (by kernel_rfl), iparse_g (N := N2) (by omega) (by omega) hS (by rw [if_pos (by omega)])⟩) ?_
        intro vc
        refine s_slot_yes (p := ((true = true) ↔ (70000 : Int) < (j : Int))) 150 ⟨env_ok, hS⟩ (by kernel_rfl) (by kernel_rfl) (⟨fun _ => by omega, fun _ => rfl⟩) ?_
        refine s_vc (ps := [InR .i64 (34998 + (n : Int))]) ⟨env_ok, hS⟩ (by kernel_rfl) (by simp only [AllT, InR, and_true]; omega) ?_
        refine s_slot_yes (p := ((true = true) ↔ (35000 : Int) < 34998 + (n : Int))) 166 ⟨env_ok, hS⟩ (by kernel_rfl) (by kernel_rfl) (⟨fun _ => by omega, fun _ => rfl⟩) ?_
        refine s_K (.one (.lit .i64 0)) ⟨env_ok, hS⟩ (by kernel_rfl) (by kernel_rfl) trivial rfl (fun β S w hS hs hw hG => have hb := hG.2.2.2.1; ⟨_, (by kernel_rfl), gK (rsign_c hb.2) rfl⟩) ?_
        refine s_K (.one (.lit .i64 0)) ⟨env_ok, hS⟩ (by kernel_rfl) (by kernel_rfl) trivial rfl (fun β S w hS hs hw hG => have hc := hG.1; ⟨_, (by kernel_rfl), gK (sign_c hc.2) rfl⟩) ?_
        refine s_K (.one (.bb true)) ⟨env_ok, hS⟩ (by kernel_rfl) (by kernel_rfl) trivial rfl (fun β S w hS hs hw hG => ⟨_, (by kernel_rfl), awake_c (ht.to hw)⟩) ?_
        exact s_ret (.bool true) ⟨env_ok, hS⟩ (by kernel_rfl) rfl (by kernel_rfl) (fun β => (by kernel_rfl)) (fun S w hs hw hG => ⟨rfl, hw⟩)
      · refine s_1 (fun x0 => pr (.ag 3 (tupAt x0)) (.lit .i64 11)) (fun x0 => tryG x0 ((0 : Rat)) 11) ⟨env_ok, hS⟩ (by kernel_rfl) (by kernel_rfl) (fun _ _ _ h => tryG_ok h) (fun β S w hS hs hw hG => ⟨_, (by kernel_rfl), parse_g (N := j) (by omega) (by omega) hS (by rw [if_neg h7])⟩) ?_
        intro vb
        refine s_vc (ps := [InR .i64 (34998 + (n : Int))]) ⟨env_ok, hS⟩ (by kernel_rfl) (by simp only [AllT, InR, and_true]; omega) ?_
        refine s_go ⟨env_ok, hS⟩ (by kernel_rfl) (t_give 0 5 1 j v (onesTo j j) (by kernel_rfl) ⟨env_ok, hS⟩  ?_)
        refine s_go ⟨env_ok, hS⟩ (by kernel_rfl) (t_win v j 0 (34998 + (n : Int)) 5 1 0 N2 (onesTo j j) (by kernel_rfl) ⟨env_ok, hS⟩ rfl (by omega) (by omega) (by omega) (fun S w hw hG => have hrow := hG.1; hrow) ?_)
        intro v2
        refine s_go ⟨env_ok, hS⟩ (by kernel_rfl) (t_str v2 (N2 - 0) (List.replicate N2 49) (by kernel_rfl) ⟨env_ok, hS⟩ (fun β S w hM hw hG => have hrow2 := hG.1; ⟨_, _, onesTo_take (N := j) (k := N2) (by omega) ▸ hrow2⟩) ?_)
        refine s_1 (fun x0 => pr (.ag 2 (tupAt x0)) (.lit .i64 11)) (fun x0 => itryG x0 ((0 : Int)) 11) ⟨env_ok, hS⟩ (by kernel_rfl) (by kernel_rfl) (fun _ _ _ h => itryG_ok h) (fun β S w hS hs hw hG => ⟨_, (by kernel_rfl), iparse_g (N := N2) (by omega) (by omega) hS (by rw [if_neg (by omega)])⟩) ?_
        intro vc
        refine s_slot_yes (p := ((false = true) ↔ (70000 : Int) < (j : Int))) 150 ⟨env_ok, hS⟩ (by kernel_rfl) (by kernel_rfl) (⟨nofun, fun h => by omega⟩) ?_
        refine s_vc (ps := [InR .i64 (34998 + (n : Int))]) ⟨env_ok, hS⟩ (by kernel_rfl) (by simp only [AllT, InR, and_true]; omega) ?_
        refine s_slot_yes (p := ((false = true) ↔ (35000 : Int) < 34998 + (n : Int))) 166 ⟨env_ok, hS⟩ (by kernel_rfl) (by kernel_rfl) (⟨nofun, fun h => by omega⟩) ?_
        refine s_K (.one (.lit .i64 0)) ⟨env_ok, hS⟩ (by kernel_rfl) (by kernel_rfl) trivial rfl (fun β S w hS hs hw hG => have hb := hG.2.2.2.1; ⟨_, (by kernel_rfl), gK (rsign_c hb.2) rfl⟩) ?_
        refine s_K (.one (.lit .i64 0)) ⟨env_ok, hS⟩ (by kernel_rfl) (by kernel_rfl) trivial rfl (fun β S w hS hs hw hG => have hc := hG.1; ⟨_, (by kernel_rfl), gK (sign_c hc.2) rfl⟩) ?_
        refine s_K (.one (.bb true)) ⟨env_ok, hS⟩ (by kernel_rfl) (by kernel_rfl) trivial rfl (fun β S w hS hs hw hG => ⟨_, (by kernel_rfl), awake_c (ht.to hw)⟩) ?_
        exact s_ret (.bool true) ⟨env_ok, hS⟩ (by kernel_rfl) rfl (by kernel_rfl) (fun β => (by kernel_rfl)) (fun S w hs hw hG => ⟨rfl, hw⟩)
end Go.Proofs.YtpmnjjmngogkkaaGreatDoor
end

section
set_option linter.unusedVariables false
namespace Go.Proofs.YtpmnjjmngogkkaaGreatDoor
open Go Go.ChangeShapes Go.WideShapes Go.ChangeAt Go.WideMaps Go.WideElems Go.RowKit
theorem own : ownKnob Tryz.prog.godebug = none := by kernel_rfl
theorem gTab : Tryz.prog.globalNamed "internal/strconv.uint64pow10" = some 3 := by kernel_rfl
theorem tTab : (Tryz.prog.globals[3]?).map (·.type) = some 251 := by kernel_rfl
theorem cTab : Tryz.prog.cellsOf 251 = 20 := by kernel_rfl
theorem cTabE : Tryz.prog.cellsOf 117 = 1 := by kernel_rfl
theorem dTab : (Rows.laid_internal_strconv_uint64pow10 : DataW Unit) = Lib.tabData .u64 Lib.pow10Tab := by rfl
end Go.Proofs.YtpmnjjmngogkkaaGreatDoor
end

section
set_option linter.unusedVariables false
namespace Go.Proofs.YtpmnjjmngogkkaaGreatDoor
open Go Go.ChangeShapes Go.WideShapes Go.ChangeAt Go.WideMaps Go.WideElems Go.RowKit
open Go.ChangeMaps (open_string shut_string)
/-- What the condition of the rows with seven listed variables gives the walks. -/
theorem p8_tab {W : World} (h : laidMetH Tryz.prog Rows.fracSizesRow.laid W) : Tab W := by
  rw [MakeChecks.laidMetH_plain _ _ _ (by kernel_rfl)] at h
  obtain ⟨ps, ⟨g0, t0, cs0, f0, p0, q0, hg0, ht0, hv0, hd0, ⟨g1, t1, cs1, f1, p1, q1, hg1, ht1, hv1, hd1, ⟨g2, t2, cs2, f2, p2, q2, hg2, ht2, hv2, hd2, _⟩, _⟩, _⟩, _⟩ := h
  obtain rfl := Option.some.inj (gTab.symm.trans hg2)
  obtain rfl := Option.some.inj (tTab.symm.trans ht2)
  rw [dTab] at hd2
  unfold Tab Lib.TabIs
  rw [hv2, ← Lib.cells_of_tab Tryz.underlying251 Tryz.underlying117 cTabE cTab hd2]
theorem p8_laid (os : Os) (args : Array Value) : laidMetH Tryz.prog Rows.fracSizesRow.laid ((World.laidAll Tryz.prog os Rows.fracSizesRow.laid).forCall (fun _ _ => 0) ⟨#[], args, []⟩).memory := by
  rw [MakeChecks.laidMetH_plain _ _ _ (by kernel_rfl)]
  exact laidMet_laidAll _ (by kernel_rfl) (by kernel_rfl)
set_option maxRecDepth 100000 in
theorem sizes_lifted (os : Os) (started : os.Started) (H : Type) (enc : TypeId × Value → H) :
    ReturnsInHanded {} Tryz.checked os 6 .any (fun w args => (Rows.fracSizesSpec.pre enc Tryz.prog Tryz.f6 [] false w args ∧ laidMetH Tryz.prog Rows.fracSizesRow.laid w) ∧ sizedMet enc Tryz.prog Tryz.f6 (OpenSpec.ofChange Rows.fracSizesSpec) false w args)
      (Rows.fracSizesSpec.post enc Tryz.prog Tryz.f6 false true false false) := by
  refine returnsInHanded_of_change_and (C := Tryz.checked) (X := fun w _ => laidMetH Tryz.prog Rows.fracSizesRow.laid w) (fun _ _ _ hh h => h.of_heap hh) own started (by kernel_rfl) Tryz.func6
    (ChangeSpec.witness_shaped (enc := enc) (C := Tryz.checked) (os := os) (X := fun w _ => laidMetH Tryz.prog Rows.fracSizesRow.laid w) false (World.laidAll Tryz.prog os Rows.fracSizesRow.laid) #[.int .i64 1, .int .i64 2] 8 (World.laidAll_os _ _ _) (World.shaped_of_ZipB (by kernel_rfl) (by kernel_rfl)) (by kernel_rfl) (by kernel_rfl) (by kernel_rfl) (p8_laid os _)) ?_
  intro W base args ds gs before hval0 hW _ _ hL _
  have hval : ∀ (j : Nat) t v, Tryz.f6.params[j]? = some t → args[j]? = some v → Value.okWide Tryz.prog W .any base t v := hval0
  have hW' := hW
  obtain ⟨p, q, hA0, hV, rfl, hfz, hnd⟩ := hW
  have hA : DataW.TrodAll enc Tryz.prog W 0 (fun _ => true) true Tryz.f6.params.toList args.toList ds p := hA0
  rw [Tryz.params6] at hA hval
  obtain ⟨v0, v1, d0, d1, p0, p1, rfl, rfl, rfl, h0, h1⟩ := trodAll_two hA
  obtain ⟨rfl, rfl⟩ := trodVars_none hV
  obtain ⟨m, rfl, rfl, rfl, hm⟩ := open_int Tryz.underlying3 (hval 0 3 v0 rfl rfl) h0
  obtain ⟨n, rfl, rfl, rfl, hn⟩ := open_int Tryz.underlying3 (hval 1 3 v1 rfl rfl) h1
  clear hA0 hval0
  simp only [List.append_nil] at hW'
  refine Calls.mono (fracSizes_c (i := m) (kk := n) (p8_tab hL)) fun e W' ⟨v, he, hv, hw⟩ => ?_
  subst he hv
  refine ⟨_, rfl, _, _, _, [], [], [], hW', ?_, ?_, rfl, hw.below.frame _, fun h => by cases h⟩
  · exact trodAll_mk1 (shut_bool Tryz.underlying4 _)
  · exact trodAll_mk2 (shut_int Tryz.underlying3 hm) (shut_int Tryz.underlying3 hn)
theorem sizes_row : Rows.FracSizesSaid :=
  OpenClaim.holds_of_wide 6 Tryz.f6 rfl rfl rfl rfl rfl rfl rfl ⟨rfl, rfl, rfl, rfl, rfl⟩ rfl rfl rfl rfl rfl (by kernel_rfl) Tryz.func6 (by kernel_rfl)
    (of_decide_eq_true (by kernel_rfl)) (by unfold Func.isWrapper; first | (rw [if_pos (by decide +kernel)]; kernel_rfl) | (rw [if_neg (by decide +kernel)]; exact ⟨rfl, rfl⟩))
    (fun os started H enc _ => sizes_lifted os started H enc)
theorem sizes_holds : Rows.FracSizesCardSaid :=
  Claim7.holds_tied_plain_at .later [] [.data, .data, .data, .data, .sentinel, .sentinel, .pinned] true (true, "650b10b7f83fe311f89b80045fa31e214c315223ee2619adf08cc50f1eb5f2c2") true
    sizes_row (fun _ h => by cases h) (by kernel_rfl) (fun _ h => by cases h) fracSizes_row_tie rfl ⟨rfl, rfl⟩ (by kernel_rfl) rfl
    (fun f fn hf hfn => by
      obtain rfl : f = 6 := Option.some.inj ((show Tryz.prog.funcNamed "rabbet/rabbetlaw01.FracSizes" = some 6 by kernel_rfl).symm.trans hf) |>.symm
      obtain rfl : fn = Tryz.f6 := (Option.some.inj (Tryz.func6.symm.trans hfn)).symm
      exact ⟨by kernel_rfl, fun j t ht => by
        rw [Tryz.params6] at ht
        have h3 : t = 3 := by
          rcases j with _ | _ | j
          · simpa using ht.symm
          · simpa using ht.symm
          · simp at ht
        subst h3
        exact (show Tryz.prog.wantsStandIn 3 = false by kernel_rfl)⟩)
    (by kernel_rfl)
end Go.Proofs.YtpmnjjmngogkkaaGreatDoor
end
