/- View4 SymY View5 View6 View7 View8 VTry View9 VTryB View10 View11 View12 RefV1 RefV2 RefV3 RefV4 SymZ VG2 Open6 ViewL1 VTryR ViewR1 ViewR2 ViewR3 -/
import Derived.Test.YtpheooheinfbgaaGreatDoorJoinsB4
import Derived.Test.YtpheooheinfbgaaGreatDoorJoinsB3
import Derived.Test.YtpheooheinfbgaaGreatDoorJoinsB2
import Derived.Deep.Slices
section
set_option linter.unusedVariables false
set_option linter.unusedSimpArgs false
namespace Go.Proofs.YtpheooheinfbgaaGreatDoor
open Go Go.RowKit
open Classical in
noncomputable def fpos (p : Rat → Prop) : List Rat → Nat → Int
  | [], _ => -1
  | x :: r, k => if p x then (k : Int) else fpos p r (k + 1)
theorem fpos_drop {p : Rat → Prop} {l : List Rat} {j : Nat} (hj : j < l.length) : (p (l.getD j 0) → fpos p (l.drop j) j = (j : Int)) ∧ (¬ p (l.getD j 0) → fpos p (l.drop j) j = fpos p (l.drop (j + 1)) (j + 1)) := by
  have e : l.drop j = l.getD j 0 :: l.drop (j + 1) := by
    rw [List.drop_eq_getElem_cons hj, List.getD_eq_getElem?_getD, List.getElem?_eq_getElem hj]
    rfl
  rw [e]
  exact ⟨fun h => by unfold fpos; rw [if_pos h], fun h => by conv => lhs; unfold fpos; rw [if_neg h]⟩
theorem fpos_some {p : Rat → Prop} : ∀ {l : List Rat} {k : Nat}, (∃ x ∈ l, p x) ↔ 0 ≤ fpos p l k := by
  intro l
  induction l with
  | nil => intro k; unfold fpos; simp
  | cons x r ih =>
    intro k
    unfold fpos
    by_cases h : p x
    · rw [if_pos h]; exact ⟨fun _ => by omega, fun _ => ⟨x, List.mem_cons_self .., h⟩⟩
    · rw [if_neg h, ← ih]
      constructor
      · rintro ⟨y, hy, hp⟩
        rcases List.mem_cons.1 hy with rfl | hy
        · exact absurd hp h
        · exact ⟨y, hy, hp⟩
      · rintro ⟨y, hy, hp⟩; exact ⟨y, List.mem_cons_of_mem _ hy, hp⟩
abbrev TestF (P : Program) (f : FuncId) (w : World) (l : List Rat) (p : Rat → Prop) : Prop := ∀ S' w' x q, q ∈ l → Up S' w' → Ext w w' → RatV S' w' x q → Gives P f [x] w' fun v w'' => v = .bool (tst (p q)) ∧ Ext w' w''
set_option maxRecDepth 100000 in
set_option maxHeartbeats 1000000 in
theorem vindex_c {S : Nat → Prop} {w : World} {v : Value} {l : List Rat} {p : Rat → Prop} (f : FuncId) [ci : CallI Tryz.prog f] (hS : Up S w) (h : SeqV true 3 ratF S w v l) (hf : TestF Tryz.prog f w l p) :
    Gives Tryz.prog 127 [v, .func (.func f) #[] #[]] w fun v' w' => v' = .int .i64 (fpos p l 0) ∧ Ext w w' := by
  have hmx := h.len_le
  unfold maxLen at hmx
  refine t_gives (E := env) (S0 := S) (G := (ratsG v (l))) (l := [.one (.sl v (l).length), .one (.fn f [])]) Tryz.func127 rfl rfl rfl ⟨h.sl, (fun _ h => by cases h), trivial⟩ rfl h ?_
  refine s_loop (ι := Nat) [(4, 5), (8, 18)] (fun j => [(8, .one (.int .i64 (j : Int)))]) (fun _ => []) (fun j => (ratsG v (l))) (fun j => j ≤ l.length ∧ fpos p (l.drop j) j = fpos p l 0) (fun j => l.length - j) (0) ⟨env_ok, hS, noLent⟩ (by kernel_rfl) (by kernel_rfl) (fun β => (by kernel_rfl)) (fun β => (by kernel_rfl)) (by kernel_rfl) (⟨Nat.zero_le _, rfl⟩) (fun S w hw hG => ⟨ov_free rfl, fun p hp => by cases hp⟩) (fun S w hw hG => hG) (fun hso j hj => ?_)
  refine s_if (p := (j : Int) < (l.length : Int)) ⟨env_ok, hS, noLent⟩ (by kernel_rfl) (by kernel_rfl) (by kernel_rfl) (fun hlt => ?_) (fun hlt => ?_)
  · have hlt' : j < l.length := by omega
    have hx0 : l[j]? = some (l.getD j 0) := by rw [List.getD_eq_getElem?_getD, List.getElem?_eq_getElem hlt']; rfl
    obtain ⟨d1, d2⟩ := fpos_drop (p := p) hlt'
    refine s_go ⟨env_ok, hS, noLent⟩ (by kernel_rfl) (t_at v l.length (j : Int) 42 3 (fun u0 => atG true 3 (fun x0 => ratG x0 ((l.getD j 0))) u0) (by kernel_rfl) ⟨env_ok, hS, noLent⟩ (fun β S w hM hw hG => have h := hG; h.el rfl rfl hx0) ?_)
    intro u_1
    refine s_go ⟨env_ok, hS, noLent⟩ (by kernel_rfl) (t_of u_1 42 3 true (fun x0 => .one (.ag 3 x0)) (fun x0 => ratG x0 ((l.getD j 0))) (by kernel_rfl) ⟨env_ok, hS, noLent⟩ (fun S w hw hG => hG.1) (fun _ _ _ h => ⟨h.ok, rfl⟩) ?_)
    intro x
    refine s_K (.one (.tp (p (l.getD j 0)))) ⟨env_ok, hS, noLent⟩ (by kernel_rfl) (isCallV (by kernel_rfl)) (svB_ok rfl) rfl (fun β S w hS hs hw hG => have hx := hG.1; ⟨_, (by kernel_rfl), hf _ _ _ _ (List.mem_of_getElem? hx0) hS hw hx⟩) ?_
    refine s_if (p := p (l.getD j 0)) ⟨env_ok, hS, noLent⟩ (by kernel_rfl) (by kernel_rfl) (by kernel_rfl) (fun hp => ?_) (fun hp => ?_)
    · refine s_out ⟨env_ok, hS, noLent⟩ (by kernel_rfl) (by kernel_rfl) ?_
      exact s_ret (.int .i64 (j : Int)) ⟨env_ok, hS, noLent⟩ (by kernel_rfl) rfl (by kernel_rfl) (fun β => (by kernel_rfl)) (fun S w hs hw hG => ⟨by rw [← hj.2, d1 hp], hw⟩)
    · refine s_vc (ps := [InR .i64 ((j : Int) + 1)]) ⟨env_ok, hS, noLent⟩ (by kernel_rfl) (by simp only [AllT, InR, and_true]; omega) ?_
      exact s_again (j + 1) ⟨env_ok, hS, noLent⟩ hso (by kernel_rfl) (by kernel_rfl) (fun β => (by kernel_rfl)) (fun β => (by kernel_rfl)) (by kernel_rfl) (⟨by omega, by rw [← d2 hp]; exact hj.2⟩) (by omega) (fun S w hw hG => ⟨ov_free rfl, fun p hp => by cases hp⟩) (fun S w hw hG => hG.2.2)
  · refine s_out ⟨env_ok, hS, noLent⟩ (by kernel_rfl) (by kernel_rfl) ?_
    exact s_ret (.int .i64 (-1)) ⟨env_ok, hS, noLent⟩ (by kernel_rfl) rfl (by kernel_rfl) (fun β => (by kernel_rfl)) (fun S w hs hw hG => ⟨by rw [← hj.2, List.drop_of_length_le (by omega)]; rfl, hw⟩)
set_option maxRecDepth 100000 in
theorem vcontains_c {S : Nat → Prop} {w : World} {v : Value} {l : List Rat} {p : Rat → Prop} (f : FuncId) [ci : CallI Tryz.prog f] (hS : Up S w) (h : SeqV true 3 ratF S w v l) (hf : TestF Tryz.prog f w l p) :
    Gives Tryz.prog 99 [v, .func (.func f) #[] #[]] w fun v' w' => v' = .bool (tst (∃ x ∈ l, p x)) ∧ Ext w w' := by
  refine t_gives (E := env) (S0 := S) (G := (ratsG v (l))) (l := [.one (.sl v (l).length), .one (.fn f [])]) Tryz.func99 rfl rfl rfl ⟨h.sl, (fun _ h => by cases h), trivial⟩ rfl h ?_
  refine s_K (.one (.int .i64 (fpos p l 0))) ⟨env_ok, hS, noLent⟩ (by kernel_rfl) (by kernel_rfl) (svB_ok rfl) rfl (fun β S w hS hs hw hG => have h := hG; ⟨_, (by kernel_rfl), vindex_c f hS h (fun S' w' x q h0 h1 h2 h3 => hf S' w' x q h0 h1 (hw.trans h2) h3)⟩) ?_
  exact s_ret (.bool (tst (0 ≤ fpos p l 0))) ⟨env_ok, hS, noLent⟩ (by kernel_rfl) rfl (by kernel_rfl) (fun β => (by kernel_rfl)) (fun S w hs hw hG => ⟨by rw [fpos_some (k := 0)], hw⟩)
def LongR (q : Rat) : Prop := 40 < Lib.nDigits q.num.natAbs ∨ 40 < Lib.nDigits q.den
theorem len_abs (z : Int) (h : 0 ≤ z) : (Lib.itoa z).length = Lib.nDigits z.natAbs := by
  obtain ⟨n, rfl⟩ : ∃ n : Nat, z = (n : Int) := ⟨z.toNat, by omega⟩
  rw [itoa_nat, Lib.decDigits_length]
  rfl
theorem len_neg (z : Int) (h : z < 0) : (Lib.itoa (-z)).length = Lib.nDigits z.natAbs := by
  rw [len_abs (-z) (by omega), Int.natAbs_neg]
set_option maxRecDepth 100000 in
theorem vnum_c {S : Nat → Prop} {w : World} {v : Value} {q : Rat} (hS : Up S w) (h : RatV S w v q) : Gives Tryz.prog 128 [v] w fun v' w' => Ext w w' ∧ IntV S 157 .u32 w' v' q.num := by
  obtain ⟨m, b, rfl, hm, hb⟩ := h
  have hi : IntV S 157 .u32 w (.agg #[.bool (tst (q.num < 0)), m]) q.num := ⟨m, rfl, hm⟩
  refine t_gives (E := env) (S0 := S) (G := (intG (.agg #[.bool (tst (q.num < 0)), m]) q.num)) (l := [.agg [.tp (q.num < 0), .val m, .val b]]) Tryz.func128 rfl rfl rfl ⟨aggOk ⟨trivial, hm.one, hb.one, trivial⟩, trivial⟩ rfl hi ?_
  exact s_ret (.agg #[.bool (tst (q.num < 0)), m]) ⟨env_ok, hS, noLent⟩ (by kernel_rfl) rfl (by kernel_rfl) (fun β => (by kernel_rfl)) (fun S w hs hw hG => have hi := hG; ⟨hw, hi.mono fun k _ hk => hs k hk⟩)
set_option maxRecDepth 100000 in
set_option maxHeartbeats 1000000 in
theorem visLong_c {S : Nat → Prop} {w : World} {v : Value} {q : Rat} (ht : Tab w) (hS : Up S w) (h : RatV S w v q) (hl : rl q 1000000) : Gives Tryz.prog 101 [v] w fun v' w' => v' = .bool (tst (LongR q)) ∧ Ext w w' := by
  have h1 : zl q.num ≤ 1000000 := hl.1
  have h2 : zl (q.den : Int) ≤ 1000000 := hl.2
  have ld := len_abs (q.den : Int) (by omega)
  rw [Int.natAbs_natCast] at ld
  refine t_gives (E := env) (S0 := S) (G := (ratG v (q))) (l := [.one (.ag 3 v)]) Tryz.func101 rfl rfl rfl ⟨h.ok, trivial⟩ rfl h ?_
  refine s_1 (fun x0 => .one (.ag 2 x0)) (fun x0 => intG x0 (q.num)) ⟨env_ok, hS, noLent⟩ (by kernel_rfl) (by kernel_rfl) (fun _ _ _ h => ⟨h.ok, rfl⟩) (fun β S w hS hs hw hG => have h := hG; ⟨_, (by kernel_rfl), vnum_c hS h⟩) ?_
  intro n
  refine s_K (.one (.int .i64 q.num.sign)) ⟨env_ok, hS, noLent⟩ (by kernel_rfl) (by kernel_rfl) (svB_ok rfl) rfl (fun β S w hS hs hw hG => have hn := hG.1; ⟨_, (by kernel_rfl), sign_c hn⟩) ?_
  refine s_if (p := q.num.sign < 0) ⟨env_ok, hS, noLent⟩ (by kernel_rfl) (by kernel_rfl) (by kernel_rfl) (fun hs => ?_) (fun hs => ?_)
  · have hneg : q.num < 0 := Int.sign_neg_iff.1 hs
    have ln := len_neg q.num hneg
    refine s_1 (fun x0 => .one (.ag 2 x0)) (fun x0 => intG x0 ((-q.num))) ⟨env_ok, hS, noLent⟩ (by kernel_rfl) (by kernel_rfl) (fun _ _ _ h => ⟨h.ok, rfl⟩) (fun β S w hS hs hw hG => have hn := hG.1; ⟨_, (by kernel_rfl), neg_c hn⟩) ?_
    intro m
    refine s_K (.one (.str (Lib.itoa (-q.num)))) ⟨env_ok, hS, noLent⟩ (by kernel_rfl) (by kernel_rfl) (svB_ok rfl) rfl (fun β S w hS hs hw hG => have hm := hG.1; ⟨_, (by kernel_rfl), istr_c (ht.to hw) hm (by rw [zl_neg]; omega)⟩) ?_
    refine s_slot (p := (40 : Int) < ((Lib.itoa (-q.num)).length : Int)) 15 ⟨env_ok, hS, noLent⟩ (by kernel_rfl) (by kernel_rfl) (fun h4 => ?_) (fun h4 => ?_)
    · exact s_ret (.bool true) ⟨env_ok, hS, noLent⟩ (by kernel_rfl) rfl (by kernel_rfl) (fun β => (by kernel_rfl)) (fun S w hs hw hG => ⟨by rw [tst_true (show LongR q from .inl (by omega))], hw⟩)
    · refine s_1 (fun x0 => .one (.ag 2 x0)) (fun x0 => intG x0 ((q.den : Int))) ⟨env_ok, hS, noLent⟩ (by kernel_rfl) (by kernel_rfl) (fun _ _ _ h => ⟨h.ok, rfl⟩) (fun β S w hS hs hw hG => have h := hG.2.2; ⟨_, (by kernel_rfl), rden_c hS h⟩) ?_
      intro d
      refine s_K (.one (.str (Lib.itoa (q.den : Int)))) ⟨env_ok, hS, noLent⟩ (by kernel_rfl) (by kernel_rfl) (svB_ok rfl) rfl (fun β S w hS hs hw hG => have hd := hG.1; ⟨_, (by kernel_rfl), istr_c (ht.to hw) hd (by omega)⟩) ?_
      exact s_ret (.bool (tst ((40 : Int) < ((Lib.itoa (q.den : Int)).length : Int)))) ⟨env_ok, hS, noLent⟩ (by kernel_rfl) rfl (by kernel_rfl) (fun β => (by kernel_rfl)) (fun S w hs hw hG => have h := hG.2.2.2; ⟨by rw [show LongR q = ((40 : Int) < ((Lib.itoa (q.den : Int)).length : Int)) from propext ⟨fun h => by rcases h with h | h <;> omega, fun h => .inr (by omega)⟩], hw⟩)
  · have hneg : ¬ q.num < 0 := fun h => hs (Int.sign_neg_iff.2 h)
    have ln := len_abs q.num (by omega)
    refine s_K (.one (.str (Lib.itoa q.num))) ⟨env_ok, hS, noLent⟩ (by kernel_rfl) (by kernel_rfl) (svB_ok rfl) rfl (fun β S w hS hs hw hG => have hn := hG.1; ⟨_, (by kernel_rfl), istr_c (ht.to hw) hn (by omega)⟩) ?_
    refine s_slot (p := (40 : Int) < ((Lib.itoa q.num).length : Int)) 15 ⟨env_ok, hS, noLent⟩ (by kernel_rfl) (by kernel_rfl) (fun h4 => ?_) (fun h4 => ?_)
    · exact s_ret (.bool true) ⟨env_ok, hS, noLent⟩ (by kernel_rfl) rfl (by kernel_rfl) (fun β => (by kernel_rfl)) (fun S w hs hw hG => ⟨by rw [tst_true (show LongR q from .inl (by omega))], hw⟩)
    · refine s_1 (fun x0 => .one (.ag 2 x0)) (fun x0 => intG x0 ((q.den : Int))) ⟨env_ok, hS, noLent⟩ (by kernel_rfl) (by kernel_rfl) (fun _ _ _ h => ⟨h.ok, rfl⟩) (fun β S w hS hs hw hG => have h := hG.2; ⟨_, (by kernel_rfl), rden_c hS h⟩) ?_
      intro d
      refine s_K (.one (.str (Lib.itoa (q.den : Int)))) ⟨env_ok, hS, noLent⟩ (by kernel_rfl) (by kernel_rfl) (svB_ok rfl) rfl (fun β S w hS hs hw hG => have hd := hG.1; ⟨_, (by kernel_rfl), istr_c (ht.to hw) hd (by omega)⟩) ?_
      exact s_ret (.bool (tst ((40 : Int) < ((Lib.itoa (q.den : Int)).length : Int)))) ⟨env_ok, hS, noLent⟩ (by kernel_rfl) rfl (by kernel_rfl) (fun β => (by kernel_rfl)) (fun S w hs hw hG => have h := hG.2.2; ⟨by rw [show LongR q = ((40 : Int) < ((Lib.itoa (q.den : Int)).length : Int)) from propext ⟨fun h => by rcases h with h | h <;> omega, fun h => .inr (by omega)⟩], hw⟩)
set_option maxRecDepth 100000 in
theorem vnot0_c {S : Nat → Prop} {w : World} {v : Value} {q : Rat} (hS : Up S w) (h : RatV S w v q) : Gives Tryz.prog 100 [v] w fun v' w' => v' = .bool (tst (¬ q = 0)) ∧ Ext w w' := by
  refine t_gives (E := env) (S0 := S) (G := (ratG v (q))) (l := [.one (.ag 3 v)]) Tryz.func100 rfl rfl rfl ⟨h.ok, trivial⟩ rfl h ?_
  refine s_K (.one (.tp (q = 0))) ⟨env_ok, hS, noLent⟩ (by kernel_rfl) (by kernel_rfl) (svB_ok rfl) rfl (fun β S w hS hs hw hG => have h := hG; ⟨_, (by kernel_rfl), visZero_c hS h⟩) ?_
  exact s_ret (.bool (tst (¬ q = 0))) ⟨env_ok, hS, noLent⟩ (by kernel_rfl) rfl (by kernel_rfl) (fun β => (by kernel_rfl)) (fun S w hs hw hG => ⟨rfl, hw⟩)
set_option maxRecDepth 100000 in
theorem vnot1_c {S : Nat → Prop} {w : World} {v : Value} {q : Rat} (hS : Up S w) (h : RatV S w v q) : Gives Tryz.prog 172 [v] w fun v' w' => v' = .bool (tst (¬ q = 0)) ∧ Ext w w' := by
  refine t_gives (E := env) (S0 := S) (G := (ratG v (q))) (l := [.one (.ag 3 v)]) Tryz.func172 rfl rfl rfl ⟨h.ok, trivial⟩ rfl h ?_
  refine s_K (.one (.tp (q = 0))) ⟨env_ok, hS, noLent⟩ (by kernel_rfl) (by kernel_rfl) (svB_ok rfl) rfl (fun β S w hS hs hw hG => have h := hG; ⟨_, (by kernel_rfl), visZero_c hS h⟩) ?_
  exact s_ret (.bool (tst (¬ q = 0))) ⟨env_ok, hS, noLent⟩ (by kernel_rfl) rfl (by kernel_rfl) (fun β => (by kernel_rfl)) (fun S w hs hw hG => ⟨rfl, hw⟩)
def NoneL (l : List Rat) : Prop := ¬ ∃ x ∈ l, ¬ x = 0
def LongL (l : List Rat) : Prop := ∃ x ∈ l, LongR x
set_option maxRecDepth 100000 in
theorem vchecked_c {S : Nat → Prop} {w : World} {v : Value} {l : List Rat} (ht : Tab w) (hS : Up S w) (h : SeqV true 3 ratF S w v l) (hl : ∀ x ∈ l, rl x 1000000) (h1 : ¬ NoneL l) (h2 : ¬ LongL l) : Gives Tryz.prog 60 [v] w fun v' w' => v' = .tuple #[] ∧ Ext w w' := by
  refine t_gives (E := env) (S0 := S) (G := (ratsG v (l))) (l := [.one (.sl v (l).length)]) Tryz.func60 rfl rfl rfl ⟨h.sl, trivial⟩ rfl h ?_
  refine s_K (.one (.tp (∃ x ∈ l, ¬ x = 0))) ⟨env_ok, hS, noLent⟩ (by kernel_rfl) (by kernel_rfl) (svB_ok rfl) rfl (fun β S w hS hs hw hG => have h := hG; ⟨_, (by kernel_rfl), vcontains_c 100 hS h fun _ _ _ _ _ h1 _ h3 => vnot0_c h1 h3⟩) ?_
  refine s_no (p := ¬ (∃ x ∈ l, ¬ x = 0)) ⟨env_ok, hS, noLent⟩ (by kernel_rfl) (by kernel_rfl) (by kernel_rfl) (h1) ?_
  refine s_K (.one (.tp (∃ x ∈ l, LongR x))) ⟨env_ok, hS, noLent⟩ (by kernel_rfl) (by kernel_rfl) (svB_ok rfl) rfl (fun β S w hS hs hw hG => have h := hG; ⟨_, (by kernel_rfl), vcontains_c 101 hS h fun _ _ _ _ h0 h1 h2 h3 => visLong_c ((ht.to hw).to h2) h1 h3 (hl _ h0)⟩) ?_
  refine s_no (p := ∃ x ∈ l, LongR x) ⟨env_ok, hS, noLent⟩ (by kernel_rfl) (by kernel_rfl) (by kernel_rfl) (h2) ?_
  exact s_ret (.tuple #[]) ⟨env_ok, hS, noLent⟩ (by kernel_rfl) rfl (by kernel_rfl) (fun β => (by kernel_rfl)) (fun S w hs hw hG => ⟨rfl, hw⟩)
set_option maxRecDepth 100000 in
theorem vchecked_0 {S : Nat → Prop} {w : World} {v : Value} {l : List Rat} (hS : Up S w) (h : SeqV true 3 ratF S w v l) (h1 : NoneL l) : Pan Tryz.prog 60 [v] w (failE 60) := by
  refine t_givesE (E := env) (S0 := S) (G := (ratsG v (l))) (l := [.one (.sl v (l).length)]) Tryz.func60 rfl rfl rfl ⟨h.sl, trivial⟩ rfl h ?_
  refine s_K (.one (.tp (∃ x ∈ l, ¬ x = 0))) ⟨env_ok, hS, noLent⟩ (by kernel_rfl) (by kernel_rfl) (svB_ok rfl) rfl (fun β S w hS hs hw hG => have h := hG; ⟨_, (by kernel_rfl), vcontains_c 100 hS h fun _ _ _ _ _ h1 _ h3 => vnot0_c h1 h3⟩) ?_
  refine s_yes (p := ¬ (∃ x ∈ l, ¬ x = 0)) ⟨env_ok, hS, noLent⟩ (by kernel_rfl) (by kernel_rfl) (by kernel_rfl) (h1) ?_
  exact s_X ⟨env_ok, hS, noLent⟩ (by kernel_rfl) (by kernel_rfl) (fun β S w hS hs hw hG => ⟨_, (by kernel_rfl), pan_to (vfail_c (e := 60)) hw⟩)
set_option maxRecDepth 100000 in
theorem vchecked_l {S : Nat → Prop} {w : World} {v : Value} {l : List Rat} (ht : Tab w) (hS : Up S w) (h : SeqV true 3 ratF S w v l) (hl : ∀ x ∈ l, rl x 1000000) (h1 : ¬ NoneL l) (h2 : LongL l) : Pan Tryz.prog 60 [v] w (failE 11) := by
  refine t_givesE (E := env) (S0 := S) (G := (ratsG v (l))) (l := [.one (.sl v (l).length)]) Tryz.func60 rfl rfl rfl ⟨h.sl, trivial⟩ rfl h ?_
  refine s_K (.one (.tp (∃ x ∈ l, ¬ x = 0))) ⟨env_ok, hS, noLent⟩ (by kernel_rfl) (by kernel_rfl) (svB_ok rfl) rfl (fun β S w hS hs hw hG => have h := hG; ⟨_, (by kernel_rfl), vcontains_c 100 hS h fun _ _ _ _ _ h1 _ h3 => vnot0_c h1 h3⟩) ?_
  refine s_no (p := ¬ (∃ x ∈ l, ¬ x = 0)) ⟨env_ok, hS, noLent⟩ (by kernel_rfl) (by kernel_rfl) (by kernel_rfl) (h1) ?_
  refine s_K (.one (.tp (∃ x ∈ l, LongR x))) ⟨env_ok, hS, noLent⟩ (by kernel_rfl) (by kernel_rfl) (svB_ok rfl) rfl (fun β S w hS hs hw hG => have h := hG; ⟨_, (by kernel_rfl), vcontains_c 101 hS h fun _ _ _ _ h0 h1 h2 h3 => visLong_c ((ht.to hw).to h2) h1 h3 (hl _ h0)⟩) ?_
  refine s_yes (p := ∃ x ∈ l, LongR x) ⟨env_ok, hS, noLent⟩ (by kernel_rfl) (by kernel_rfl) (by kernel_rfl) (h2) ?_
  exact s_X ⟨env_ok, hS, noLent⟩ (by kernel_rfl) (by kernel_rfl) (fun β S w hS hs hw hG => ⟨_, (by kernel_rfl), pan_to (vfail_c (e := 11)) hw⟩)
end Go.Proofs.YtpheooheinfbgaaGreatDoor
end
section
set_option linter.unusedVariables false
set_option linter.unusedSimpArgs false
namespace Go.Proofs.YtpheooheinfbgaaGreatDoor
open Go Go.RowKit
abbrev Cx.fnK (P : Program) (fn : Func) (E : Env) (w0 : World) (S0 K : Nat → Prop) (Ψ : Value → World → Prop) : Cx := ⟨P, fn.ntmps, E, w0, S0, K, endQ P fn Ψ⟩
def SVsOkM (m : Nat) : List SV → Prop
  | [] => True
  | s :: r => s.Ok m ∧ SVsOkM m r
theorem SVsOkM.all {m : Nat} : ∀ {l : List SV}, SVsOkM m l → ∀ s ∈ l, s.Ok m := by
  intro l
  induction l with
  | nil => intro _ s hs; cases hs
  | cons x r ih =>
    intro h s hs
    rcases List.mem_cons.1 hs with rfl | hs
    · exact h.1
    · exact ih h.2 s hs
theorem sat_startK {base : Bs} {w : World} {l : List SV} {hp : List HE} {β : Nat → Nat} (hok : SVsOkM hp.length l) (hM : Mem base hp β w) : Sat base ⟨frOf 0 l, hp⟩ β (fun i => (l.map (SV.den β)).getD i undef) w :=
  ⟨fun d s hs => by have h := frOf_look (β := β) (m := hp.length) (i := 0) (d := d) hok.all s hs; simpa using h, hM⟩
theorem t_givesK {P : Program} {E : Env} {S0 K : Nat → Prop} {f : FuncId} {fn : Func} {code : Code} {l : List SV} {hp : List HE} {β : Nat → Nat} {args : List Value} {w : World} {Ψ : Value → World → Prop} {G : Gh} (hf : P.funcs[f]? = some fn) (hb : fn.body = some code) (hok : codeOk fn.ntmps code = true)
    (hn : Nat.ble args.length fn.ntmps = true) (hl : SVsOkM hp.length l) (ha : l.map (SV.den β) = args) (hM : Mem ⟨w.heap.size, K⟩ hp β w) (hG : G.p (Sof S0 β hp) w)
    (h : Run (Cx.fnK P fn E w S0 K Ψ) ⟨.code code, [], ⟨frOf 0 l, hp⟩, []⟩ G) : Gives P f args w Ψ := by
  refine gives_of hf hb hok hn ?_
  subst ha
  exact h.run _ _ w (sat_startK hl hM) .refl hG
theorem t_retM {c : Cx} {fn : Func} {Ψ : Value → World → Prop} {rs : List ResultVar} {o : Out} {G : Gh} (v : Value) (hc : c.Ok) (hQ : c.Q = endQ c.P fn Ψ) (hrs : fn.results.toList = rs) (he : isEnd o = true) (hv : ∀ β, resV' c.E rs o.st β = some v)
    (h : ∀ β S w, Mem c.bs o.st.hp β w → (∀ k, S k → Sof c.S0 β o.st.hp k) → Keeps c.K c.w0 w → G.p S w → Ψ v w) : Run c o G := by
  refine ⟨fun β ρ w hS hw hG => ?_⟩
  have h1 := hv β
  unfold resV' at h1
  cases hl : resSV c.E o.st rs with
  | none => rw [hl] at h1; cases h1
  | some l =>
    rw [hl] at h1
    simp only [Option.map_some, Option.some.injEq] at h1
    have h2 := resSV_ok hc.env hS hl
    have h3 := h β _ w hS.mem (fun k hk => hk) hw hG
    have hend : ∀ e, e = Exit.ret ∨ e = Exit.normal → endQ c.P fn Ψ e ρ w := by
      rintro e (rfl | rfl) <;> exact ⟨_, hrs ▸ h2, h1 ▸ h3⟩
    unfold isEnd at he
    split at he <;> first | (cases he; done) | skip
    · rename_i e1 e2
      rw [e1, e2]
      show c.Q .ret ρ w
      rw [hQ]
      exact hend _ (.inl rfl)
    · rename_i e1 e2
      rw [e1, e2]
      show c.Q .normal ρ w
      rw [hQ]
      exact hend _ (.inr rfl)
theorem s_retM {P : Program} {fn : Func} {E : Env} {w0 : World} {S0 K : Nat → Prop} {Ψ : Value → World → Prop} {rs : List ResultVar} {o : Out} {G : Gh} (v : Value) (hc : (Cx.fnK P fn E w0 S0 K Ψ).Ok) (hv0 : (ex (Cx.fnK P fn E w0 S0 K Ψ) o).vc = []) (hrs : fn.results.toList = rs) (he : isEnd (ex (Cx.fnK P fn E w0 S0 K Ψ) o) = true) (hv : ∀ β, resV' E rs (ex (Cx.fnK P fn E w0 S0 K Ψ) o).st β = some v)
    (h : ∀ β S w, Mem ⟨w0.heap.size, K⟩ (ex (Cx.fnK P fn E w0 S0 K Ψ) o).st.hp β w → (∀ k, S k → Sof S0 β (ex (Cx.fnK P fn E w0 S0 K Ψ) o).st.hp k) → Keeps K w0 w → G.p S w → Ψ v w) : Run (Cx.fnK P fn E w0 S0 K Ψ) o G :=
  s_go hc hv0 (t_retM v hc rfl hrs he hv h)
section
variable {c : Cx} {o : Out} {G : Gh}
theorem s_KM {f : FuncId} [ci : CallI c.P f] {X : Value} (s : SV) (hc : c.Ok) (hv : (ex c o).vc = []) (hf : isCall f (ex c o) = true) (hok : s.Ok 0) (hX : s.den (fun _ => 0) = X)
    (h : ∀ β S w, Up S w → Mem c.bs (ex c o).st.hp β w → (∀ k, S k → c.S0 k) → Keeps c.K c.w0 w → G.p S w → ∃ args, (callArgs (ex c o)).map (SV.den β) = args ∧ Gives c.P f args w fun v w' => v = X ∧ Ext w w')
    (hn : Run c (callNext (ex c o) s) G) : Run c o G := by
  refine s_go hc hv (t_callM f hc (fun _ : Unit => s) (fun _ => True) (fun _ => .nil) hf (fun β S w h1 h1' h2 h3 h4 => ?_) fun _ _ => ?_)
  · obtain ⟨args, ha, hg⟩ := h β S w h1 h1' h2 h3 h4
    refine ⟨args, ha, hg.mono fun v w' hv => ⟨hv.2, (), ?_, hok.le (Nat.zero_le _), trivial, trivial⟩⟩
    rw [hv.1, ← hX]
    exact SV.den_congr (m := 0) (fun i hi => absurd hi (Nat.not_lt_zero i)) hok
  · exact t_facts (fun S w _ h => h.2) hn
theorem s_1M {f : FuncId} [ci : CallI c.P f] (pat : Value → SV) (Δ : Value → Gh) (hc : c.Ok) (hv : (ex c o).vc = []) (hf : isCall f (ex c o) = true) (hok : ∀ a S w, (Δ a).p S w → (pat a).Ok 0 ∧ (pat a).den (fun _ => 0) = a)
    (h : ∀ β S w, Up S w → Mem c.bs (ex c o).st.hp β w → (∀ k, S k → c.S0 k) → Keeps c.K c.w0 w → G.p S w → ∃ args, (callArgs (ex c o)).map (SV.den β) = args ∧ Gives c.P f args w fun v w' => Ext w w' ∧ (Δ v).p S w')
    (hn : ∀ a, Run c (callNext (ex c o) (pat a)) ((Δ a).and G)) : Run c o G := by
  refine s_go hc hv (t_callM f hc pat (fun _ => True) Δ hf (fun β S w h1 h1' h2 h3 h4 => ?_) fun a _ => hn a)
  obtain ⟨args, ha, hg⟩ := h β S w h1 h1' h2 h3 h4
  refine ⟨args, ha, hg.mono fun v w' hv => ?_⟩
  obtain ⟨e1, e2⟩ := hok v S w' hv.2
  exact ⟨hv.1, v, by rw [SV.den_congr (m := 0) (β' := fun _ => 0) (fun i hi => absurd hi (Nat.not_lt_zero i)) e1, e2], e1.le (Nat.zero_le _), trivial, hv.2⟩
theorem s_KB {f : FuncId} [ci : CallI c.P f] (s : SV) (hc : c.Ok) (hv : (ex c o).vc = []) (hf : isCall f (ex c o) = true) (hok : s.Ok (ex c o).st.hp.length)
    (h : ∀ β S w, Up S w → Mem c.bs (ex c o).st.hp β w → (∀ k, S k → c.S0 k) → Keeps c.K c.w0 w → G.p S w → ∃ args, (callArgs (ex c o)).map (SV.den β) = args ∧ Gives c.P f args w fun v w' => v = s.den β ∧ Ext w w')
    (hn : Run c (callNext (ex c o) s) G) : Run c o G := by
  refine s_go hc hv (t_callM f hc (fun _ : Unit => s) (fun _ => True) (fun _ => .nil) hf (fun β S w h1 h1' h2 h3 h4 => ?_) fun _ _ => ?_)
  · obtain ⟨args, ha, hg⟩ := h β S w h1 h1' h2 h3 h4
    exact ⟨args, ha, hg.mono fun v w' hv => ⟨hv.2, (), hv.1, hok, trivial, trivial⟩⟩
  · exact t_facts (fun S w _ h => h.2) hn
theorem s_XM {f : FuncId} [ci : CallI c.P f] (hc : c.Ok) (hv : (ex c o).vc = []) (hf : isCall f (ex c o) = true)
    (h : ∀ β S w, Up S w → Mem c.bs (ex c o).st.hp β w → (∀ k, S k → c.S0 k) → Keeps c.K c.w0 w → G.p S w → ∃ args, (callArgs (ex c o)).map (SV.den β) = args ∧ GivesE c.P f args w (fun _ _ => False) fun ch w' => ∀ ρ, c.Q (.panic ch) ρ w') : Run c o G :=
  s_go hc hv (t_callEM (α := Unit) f hc (fun _ => .und) (fun _ => False) (fun _ => .nil) hf (fun β S w h1 h1' h2 h3 h4 => let ⟨args, ha, hg⟩ := h β S w h1 h1' h2 h3 h4; ⟨args, ha, hg.mono (fun _ _ hf => hf.elim) fun _ _ hp => hp⟩) fun _ hf => hf.elim)
theorem pan_sub {f : FuncId} {args : List Value} {w : World} {X : List PanicEntry} {R : Fr → World → Prop} {k : List Kt} (h : Pan c.P f args w X) (hq : ∀ w', Ext w w' → ∀ ρ, c.Q (.panic X) ρ w') : GivesE c.P f args w (fun _ _ => False) fun ch w' => ∀ ρ, (c.sub R k).Q (.panic ch) ρ w' :=
  h.mono (fun _ _ h => h) fun ch w' hp ρ => by
    obtain ⟨rfl, hk⟩ := hp
    exact kQ_panic (k := k) (hq w' hk ρ)
def nilQ (o : Out) : Option Value := match opAt o with
  | some (_, .nilCheck x) => match opd o.st.fr x with
    | some (.one (.val v)) => some v
    | _ => none
  | _ => none
theorem t_nilP (a : Addr) (hq : nilQ o = some (.pointer (some a))) (hc : c.Ok) (hn : Run c (opNext o (.one (.val (.pointer (some a)))) o.st.hp) G) : Run c o G := by
  unfold nilQ at hq
  split at hq <;> first | (cases hq; done) | skip
  rename_i d x hop
  split at hq <;> first | (cases hq; done) | skip
  rename_i v hx
  simp only [Option.some.injEq] at hq
  subst hq
  refine t_opv (α := Unit) (fun _ => .one (.val (.pointer (some a)))) (fun _ => .nil) hop (fun β S w F ty hkn hM hup hS hw hG => ⟨(), w, .refl, (rfl : Value.oneCell' _ = true), trivial, ?_, rfl⟩) hc fun _ => t_facts (fun S w _ h => h.2) hn
  have g1 : ev F x = .pointer (some a) := (hkn x (by simp [Op.operands]) _ hx).1
  intro d pos aft g
  simp [execOp, g1, SV.den, Ch.den]
def winPQ (E : Env) (o : Out) : Option (Value × Nat) := match opAt o with
  | some (_, .slice T x none none none) => match opd o.st.fr x, kindOf E T with
    | some (.one (.val v)), .array n e => (E.get e).map fun _ => (v, n)
    | _, _ => none
  | _ => none
theorem t_winP (b n : Nat) (hq : winPQ c.E o = some (.pointer (some ⟨b, 0, none⟩), n)) (hc : c.Ok) (hn : Run c (opNext o (.one (.sl (.slice (some ⟨b, 0, none⟩) n n) n)) o.st.hp) G) : Run c o G := by
  unfold winPQ at hq
  split at hq <;> first | (cases hq; done) | skip
  rename_i d T x hop
  split at hq <;> first | (cases hq; done) | skip
  rename_i v n' e hx hk
  cases hte : c.E.get e with
  | none => rw [hte] at hq; cases hq
  | some te =>
    rw [hte] at hq
    simp only [Option.map_some, Option.some.injEq, Prod.mk.injEq] at hq
    obtain ⟨rfl, rfl⟩ := hq
    have hkd := kindOf_ok (t := T) hc.env
    rw [hk] at hkd
    have hkd' : c.P.underlying T = some (.array n' e) := hkd
    obtain ⟨z, hty, _⟩ := (hc.env.get hte).ty
    refine t_opv (α := Unit) (fun _ => .one (.sl (.slice (some ⟨b, 0, none⟩) n' n') n')) (fun _ => .nil) hop (fun β S w F ty hkn hM hup hS hw hG => ⟨(), w, .refl, ⟨_, _, rfl, Nat.le_refl _⟩, trivial, ?_, rfl⟩) hc fun _ => t_facts (fun S w _ h => h.2) hn
    have g1 : ev F x = .pointer (some ⟨b, 0, none⟩) := (hkn x (by simp [Op.operands]) _ hx).1
    intro d pos aft g
    simp [execOp, g1, SV.den, Ch.den, Instr.sliceAt, Instr.slice, run_underlying hkd', Instr.sliceBounds, Instr.sliceBound, asIntOf, hty.runSize w, sliced, Instr.sureAddr, Addr.add]
theorem t_winA (u : Value) (n : Nat) (Δ : Value → Gh) (hq : winPQ c.E o = some (u, n)) (hc : c.Ok)
    (h : ∀ β S w, Mem c.bs o.st.hp β w → Keeps c.K c.w0 w → G.p S w → ∃ b k, u = .pointer (some ⟨b, k, none⟩) ∧ (Δ (.slice (some ⟨b, k, none⟩) n n)).p S w)
    (hn : ∀ v, Run c (opNext o (.one (.sl v n)) o.st.hp) ((Δ v).and G)) : Run c o G := by
  unfold winPQ at hq
  split at hq <;> first | (cases hq; done) | skip
  rename_i d T x hop
  split at hq <;> first | (cases hq; done) | skip
  rename_i v n' e hx hk
  cases hte : c.E.get e with
  | none => rw [hte] at hq; cases hq
  | some te =>
    rw [hte] at hq
    simp only [Option.map_some, Option.some.injEq, Prod.mk.injEq] at hq
    obtain ⟨rfl, rfl⟩ := hq
    have hkd := kindOf_ok (t := T) hc.env
    rw [hk] at hkd
    have hkd' : c.P.underlying T = some (.array n' e) := hkd
    obtain ⟨z, hty, _⟩ := (hc.env.get hte).ty
    refine t_opv (α := Value) (fun v => .one (.sl v n')) Δ hop (fun β S w F ty hkn hM hup hS hw hG => ?_) hc hn
    obtain ⟨b, k, hu, hΔ⟩ := h β S w hM hw hG
    refine ⟨.slice (some ⟨b, k, none⟩) n' n', w, .refl, ⟨_, _, rfl, Nat.le_refl _⟩, hΔ, ?_, rfl⟩
    have g1 : ev F x = .pointer (some ⟨b, k, none⟩) := by rw [(hkn x (by simp [Op.operands]) _ hx).1]; exact hu
    intro d pos aft g
    simp [execOp, g1, SV.den, Ch.den, Instr.sliceAt, Instr.slice, run_underlying hkd', Instr.sliceBounds, Instr.sliceBound, asIntOf, hty.runSize w, sliced, Instr.sureAddr, Addr.add]
def atAQ (E : Env) (o : Out) : Option (Value × Nat × Int × Nat) := match opAt o with
  | some (_, .indexAddr T x ix) => match opd o.st.fr x, opd o.st.fr ix, kindOf E T with
    | some (.one (.val v)), some (.one (.lit _ z)), .array n e => (E.get e).map fun te => (v, n, z, te.size)
    | _, _, _ => none
  | _ => none
theorem t_atA (u : Value) (n : Nat) (i : Int) (sz : Nat) (Δ : Value → Gh) (hq : atAQ c.E o = some (u, n, i, sz)) (hc : c.Ok) (h0 : 0 ≤ i) (h1 : i < n)
    (h : ∀ β S w, Mem c.bs o.st.hp β w → Keeps c.K c.w0 w → G.p S w → ∃ b k, u = .pointer (some ⟨b, k, none⟩) ∧ (Δ (.pointer (some ⟨b, k + i.toNat * sz, none⟩))).p S w)
    (hn : ∀ v, Run c (opNext o (.one (.val v)) o.st.hp) ((Δ v).and G)) : Run c o G := by
  unfold atAQ at hq
  split at hq <;> first | (cases hq; done) | skip
  rename_i d T x ix hop
  split at hq <;> first | (cases hq; done) | skip
  rename_i v kd z n' e hx hix hk
  cases hte : c.E.get e with
  | none => rw [hte] at hq; cases hq
  | some te =>
    rw [hte] at hq
    simp only [Option.map_some, Option.some.injEq, Prod.mk.injEq] at hq
    obtain ⟨rfl, rfl, rfl, rfl⟩ := hq
    have hkd := kindOf_ok (t := T) hc.env
    rw [hk] at hkd
    have hkd' : c.P.underlying T = some (.array n' e) := hkd
    obtain ⟨zz, hty, _⟩ := (hc.env.get hte).ty
    refine t_opv (α := Value) (fun v => .one (.val v)) Δ hop (fun β S w F ty hkn hM hup hS hw hG => ?_) hc hn
    obtain ⟨b, k, hu, hΔ⟩ := h β S w hM hw hG
    refine ⟨_, w, .refl, (rfl : Value.oneCell' _ = true), hΔ, ?_, rfl⟩
    have g1 : ev F x = .pointer (some ⟨b, k, none⟩) := by rw [(hkn x (by simp [Op.operands]) _ hx).1]; exact hu
    have g2 := (hkn ix (by simp [Op.operands]) _ hix).1
    intro d pos aft g
    simp [execOp, g1, g2, SV.den, Ch.den, Instr.indexAt, asIntOf, run_underlying hkd', Instr.sureAddr, h0, h1, hty.runSize w, add_addr]
theorem t_ofM (u : Value) (T : TypeId) (sz : Nat) (g : Bool) (pat : Value → SV) (Δ : Value → Gh) (hq : ldQ c.E o = some (u, T, sz, g)) (hc : c.Ok) (hok : ∀ a S w, (Δ a).p S w → (pat a).Ok 0 ∧ (pat a).den (fun _ => 0) = a)
    (h : ∀ β S w, Mem c.bs o.st.hp β w → Keeps c.K c.w0 w → G.p S w → ∃ S' x, Lies g sz x ∧ At S' w u x.cells.toList ∧ (Δ x).p S w)
    (hn : ∀ a, Run c (opNext o (pat a) o.st.hp) ((Δ a).and G)) : Run c o G := by
  unfold ldQ at hq
  split at hq <;> first | (cases hq; done) | skip
  rename_i d T' x hop
  split at hq <;> first | (cases hq; done) | skip
  rename_i p hx
  cases hte : c.E.get T' with
  | none => rw [hte] at hq; cases hq
  | some te =>
    rw [hte] at hq
    simp only [Option.map_some, Option.some.injEq, Prod.mk.injEq] at hq
    obtain ⟨rfl, rfl, rfl, rfl⟩ := hq
    refine t_opv pat Δ hop (fun β S w F ty hkn hM hup hS hw hG => ?_) hc hn
    obtain ⟨S', a, h1, h2, h3⟩ := h β S w hM hw hG
    obtain ⟨h4, h5⟩ := hok a S w h3
    have g1 : ev F x = p := (hkn x (by simp [Op.operands]) _ hx).1
    obtain ⟨z, hty, _⟩ := (hc.env.get hte).ty
    refine ⟨a, w, .refl, h4.le (Nat.zero_le _), h3, ?_, rfl⟩
    rw [SV.den_congr (m := 0) (β' := fun _ => 0) (fun i hi => absurd hi (Nat.not_lt_zero i)) h4, h5]
    exact h2.load hty h1 g1
end
theorem row_ownS {S : Nat → Prop} {T : TypeId} {s n : Nat} {w : World} {v : Value} {cs : List Value} (h : Own 0 T s w v n cs) (hS : ∀ g, v.ownBlock = some g → S g) : Row S T s w v n cs := by
  refine ⟨h.1, ?_⟩
  rcases h.2 with h3 | ⟨g, cap, cur, hv, hg, hh, hn2, hm, hcc, ht⟩
  · exact .inl h3
  · exact .inr ⟨g, 0, cap, cur, (0, 0), hv, hn2, hm, hS g (by rw [hv]; rfl), hh, by omega, by simpa using ht⟩
theorem row_mem {base : Bs} {hp : List HE} {β : Nat → Nat} {w : World} {b : Nat} {T : TypeId} {s n : Nat} {v : Value} {cs : List Value} (hb : nth hp b = some (.row T s v n cs)) (hM : Mem base hp β w) : Own 0 T s w v n cs := by
  rw [nth_eq] at hb
  exact hM.row b T s v n cs hb
theorem cells_ag {β : Nat → Nat} {n : Nat} {x : Value} : cellsL β [.ag n x] = x.cells.toList := by simp [cellsL, Ch.cells]
theorem mem_row {w : World} {T : TypeId} {s n : Nat} {v : Value} {cs : List Value} {β : Nat → Nat} (h : Own 0 T s w v n cs) : Mem ⟨w.heap.size, fun k => some k ≠ v.ownBlock⟩ [.row T s v n cs] β w := by
  have one : ∀ {i : Nat} {x : HE}, [HE.row T s v n cs][i]? = some x → i = 0 ∧ x = .row T s v n cs := by
    intro i x hi
    cases i with
    | zero => simp at hi; exact ⟨rfl, hi.symm⟩
    | succ i => simp at hi
  have mine : ∀ {i k : Nat}, mineAt β [.row T s v n cs] i k → i = 0 ∧ v.ownBlock = some k := by
    rintro i k ⟨x, hi, hk⟩
    obtain ⟨rfl, rfl⟩ := one hi
    exact ⟨rfl, hk⟩
  refine ⟨fun i T' l hi => ?_, fun i T' s' v' n' cs' hi => ?_, fun i A hi => ?_, fun i k hk => ?_, fun i j k hi hj => ?_⟩
  · cases (one hi).2
  · cases (one hi).2; exact h
  · cases (one hi).2
  · obtain ⟨_, hk⟩ := mine hk
    exact ⟨.inr fun e => e hk.symm, (h.lt k hk).2⟩
  · rw [(mine hi).1, (mine hj).1]
theorem sof_row {S : Nat → Prop} {T : TypeId} {s n : Nat} {v : Value} {cs : List Value} {β : Nat → Nat} (hS : ∀ k, S k → some k ≠ v.ownBlock) : ∀ k, S k → Sof (fun k => S k ∨ some k = v.ownBlock) β [.row T s v n cs] k := by
  intro k hk
  refine ⟨.inl hk, ?_⟩
  rintro i ⟨x, hi, hx⟩
  cases i with
  | zero =>
    simp at hi
    subst hi
    exact hS k hk (Eq.symm hx)
  | succ i => simp at hi
theorem lent_row {S : Nat → Prop} {v : Value} : ∀ k, ¬ (some k ≠ v.ownBlock) → S k ∨ some k = v.ownBlock := fun _ h => .inr (Classical.byContradiction h)
theorem up_row {S : Nat → Prop} {v : Value} {w : World} (h : Up S w) : Up (fun k => S k ∨ some k = v.ownBlock) w := fun k hk => .inl (h k hk)
theorem blk_own {T : TypeId} {s n b : Nat} {w : World} {cs : List Value} (h : Own 0 T s w (.slice (some ⟨b, 0, none⟩) n n) n cs) : Blk w b T cs := by
  rcases h.2 with ⟨h1, _⟩ | ⟨g, cap, cur, h1, _, h2, _, _, h3, h4⟩
  · cases h1
  · simp only [Value.slice.injEq, Option.some.injEq, Addr.mk.injEq] at h1
    obtain ⟨⟨rfl, _, _⟩, _, rfl⟩ := h1
    have e : cs = cur.toList := by rw [← h4]; exact List.take_of_length_le (by simpa using Nat.le_of_eq h3)
    unfold Blk
    rw [h2, e]
theorem sof_back {S : Nat → Prop} {T : TypeId} {s n : Nat} {v : Value} {cs : List Value} {β : Nat → Nat} {hp : List HE} {k : Nat} (i : Nat) (hb : nth hp i = some (.row T s v n cs)) (h : Sof (fun k => S k ∨ some k = v.ownBlock) β hp k) : S k := by
  rcases h.1 with h1 | h1
  · exact h1
  · rw [nth_eq] at hb
    exact absurd ⟨_, hb, h1.symm⟩ (h.2 i)
structure ElsV {α : Type} (g : Bool) (s : Nat) (F : Value → α → Gh) (S : Nat → Prop) (w : World) (vs : List Value) (l : List α) : Prop where
  len : vs.length = l.length
  lies : ∀ x ∈ vs, Lies g s x
  el : ∀ (i : Nat) a x, l[i]? = some a → vs[i]? = some x → (F x a).p S w
abbrev elsG {α : Type} (g : Bool) (s : Nat) (F : Value → α → Gh) (vs : List Value) (l : List α) : Gh :=
  ⟨fun S w => ElsV g s F S w vs l, fun h k => ⟨h.len, h.lies, fun i a x h1 h2 => (F x a).keep (h.el i a x h1 h2) k⟩, fun h k => ⟨h.len, h.lies, fun i a x h1 h2 => (F x a).mono (h.el i a x h1 h2) k⟩⟩
def catV (vs : List Value) : List Value := vs.flatMap fun x => x.cells.toList
section
variable {α : Type} {g : Bool} {s : Nat} {F : Value → α → Gh} {S : Nat → Prop} {w : World} {vs : List Value} {l : List α}
theorem catV_len (h : ∀ x ∈ vs, Lies g s x) : (catV vs).length = vs.length * s := by
  induction vs with
  | nil => simp [catV]
  | cons x r ih =>
    have h1 := (h x (List.mem_cons_self ..)).1
    have h2 := ih fun y hy => h y (List.mem_cons_of_mem _ hy)
    unfold catV at h2 ⊢
    rw [List.flatMap_cons, List.length_append, h1, h2, List.length_cons, Nat.add_mul, Nat.one_mul, Nat.add_comm]
theorem catV_set (h : ∀ x ∈ vs, Lies g s x) : ∀ {i : Nat} {y : Value}, i < vs.length → (catV vs).take (i * s) ++ y.cells.toList ++ (catV vs).drop (i * s + s) = catV (vs.set i y) := by
  induction vs with
  | nil => intro i y hi; simp at hi
  | cons x r ih =>
    intro i y hi
    have h1 := (h x (List.mem_cons_self ..)).1
    have ih2 : ∀ {i : Nat} {y : Value}, i < r.length → (catV r).take (i * s) ++ y.cells.toList ++ (catV r).drop (i * s + s) = catV (r.set i y) := ih fun y hy => h y (List.mem_cons_of_mem _ hy)
    unfold catV at ih2 ⊢
    rw [List.flatMap_cons]
    cases i with
    | zero =>
      rw [Nat.zero_mul, Nat.zero_add, List.take_zero, List.nil_append, List.drop_left' h1, List.set_cons_zero, List.flatMap_cons]
    | succ i =>
      rw [Nat.add_mul, Nat.one_mul, List.set_cons_succ, List.flatMap_cons, ← ih2 (i := i) (y := y) (by simpa using hi)]
      generalize r.flatMap (fun x => x.cells.toList) = C
      have e1 : (x.cells.toList ++ C).take (i * s + s) = x.cells.toList ++ C.take (i * s) := by
        rw [show i * s + s = x.cells.toList.length + i * s by omega, List.take_length_add_append]
      have e2 : (x.cells.toList ++ C).drop (i * s + s + s) = C.drop (i * s + s) := by
        rw [show i * s + s + s = x.cells.toList.length + (i * s + s) by omega, List.drop_length_add_append]
      rw [e1, e2]
      simp only [List.append_assoc]
theorem ElsV.set (h : ElsV g s F S w vs l) {i : Nat} {y : Value} {a : α} (hy : Lies g s y) (hF : (F y a).p S w) : ElsV g s F S w (vs.set i y) (l.set i a) := by
  refine ⟨by simp [h.len], fun x hx => ?_, fun j b x h1 h2 => ?_⟩
  · rcases List.mem_or_eq_of_mem_set hx with hx | rfl
    · exact h.lies x hx
    · exact hy
  · by_cases e : i = j
    · subst e
      have hi := (List.getElem?_eq_some_iff.1 h1).1
      rw [List.length_set] at hi
      rw [List.getElem?_set_self hi] at h1
      rw [List.getElem?_set_self (by rw [h.len]; exact hi)] at h2
      cases h1
      cases h2
      exact hF
    · rw [List.getElem?_set_ne e] at h1 h2
      exact h.el j b x h1 h2
theorem ElsV.own {T : TypeId} {v : Value} {n i : Nat} {a : α} (h : ElsV g s F S w vs l) (hown : Own 0 T s w v n (catV vs)) (hn : n = l.length) (ha : l[i]? = some a) :
    ∃ S' x, Lies g s x ∧ At S' w (.pointer (some (adr v (i * s)))) x.cells.toList ∧ (F x a).p S w := by
  subst hn
  have hi := (List.getElem?_eq_some_iff.1 ha).1
  have hx : vs[i]? = some (vs[i]'(by rw [h.len]; exact hi)) := List.getElem?_eq_getElem _
  obtain ⟨S', hr⟩ := own_row hown
  have h1 := At.of_row hr hi
  have h2 := flatMap_at h.lies hx
  unfold catV at h1
  rw [h2] at h1
  exact ⟨S', _, h.lies _ (List.getElem_mem _), h1, h.el i a _ ha hx⟩
theorem ElsV.seq {T : TypeId} {v : Value} {n : Nat} (h : ElsV g s F S w vs l) (hown : Own 0 T s w v n (catV vs)) (hn : n = l.length) : SeqV g s F (fun k => S k ∨ some k = v.ownBlock) w v l := by
  subst hn
  exact ⟨T, vs, h.len, h.lies, row_ownS hown fun k hk => .inr hk.symm, fun i a x ha hx => (F x a).mono (h.el i a x ha hx) fun k _ hk => .inl hk⟩
end
end Go.Proofs.YtpheooheinfbgaaGreatDoor
end
section
set_option linter.unusedVariables false
set_option linter.unusedSimpArgs false
namespace Go.Proofs.YtpheooheinfbgaaGreatDoor
open Go Go.RowKit
abbrev Not0 (x : Rat) : Prop := ¬ x = 0
noncomputable def leadL (l : List Rat) : Rat := l.getD (fpos Not0 l 0).toNat 0
noncomputable def scaleL (l : List Rat) : List Rat := l.map (· / leadL l)
noncomputable def partL (l : List Rat) (b : Rat) (j : Nat) : List Rat := (l.map (· / b)).take j ++ l.drop j
theorem partL_zero (l : List Rat) (b : Rat) : partL l b 0 = l := by simp [partL]
theorem partL_all (l : List Rat) (b : Rat) : partL l b l.length = l.map (· / b) := by unfold partL; rw [List.take_of_length_le (by simp), List.drop_length, List.append_nil]
theorem partL_len {l : List Rat} {b : Rat} {j : Nat} : (partL l b j).length = l.length := by unfold partL; simp; omega
theorem partL_get {l : List Rat} {b : Rat} {j : Nat} (h : j < l.length) : (partL l b j)[j]? = some (l.getD j 0) := by
  unfold partL
  rw [List.getElem?_append_right (by simp; omega), List.length_take, List.length_map, Nat.min_eq_left (by omega), Nat.sub_self, List.getElem?_drop, Nat.add_zero, List.getD_eq_getElem?_getD, List.getElem?_eq_getElem h]
  rfl
theorem partL_succ {l : List Rat} {b : Rat} {j : Nat} (h : j < l.length) : partL l b (j + 1) = (partL l b j).set j (l.getD j 0 / b) := by
  unfold partL
  have e1 : (l.map (· / b)).take (j + 1) = (l.map (· / b)).take j ++ [l.getD j 0 / b] := by
    rw [List.take_add_one, List.getElem?_map, List.getElem?_eq_getElem h, List.getD_eq_getElem?_getD, List.getElem?_eq_getElem h]
    rfl
  have e2 : l.drop j = l.getD j 0 :: l.drop (j + 1) := by
    rw [List.drop_eq_getElem_cons h, List.getD_eq_getElem?_getD, List.getElem?_eq_getElem h]
    rfl
  rw [e1, e2, List.set_append_right _ _ (by simp; omega), List.length_take, List.length_map, Nat.min_eq_left (by omega), Nat.sub_self, List.set_cons_zero]
  simp
theorem fpos_hit {p : Rat → Prop} : ∀ {l : List Rat} {k : Nat}, 0 ≤ fpos p l k → ∃ j, fpos p l k = ((k + j : Nat) : Int) ∧ j < l.length ∧ p (l.getD j 0) := by
  intro l
  induction l with
  | nil => intro k h; unfold fpos at h; omega
  | cons x r ih =>
    intro k h
    unfold fpos at h ⊢
    by_cases hx : p x
    · rw [if_pos hx]; exact ⟨0, by simp, by simp, hx⟩
    · rw [if_neg hx] at h ⊢
      obtain ⟨j, h1, h2, h3⟩ := ih h
      exact ⟨j + 1, by rw [h1]; congr 1; omega, by simpa using h2, by simpa using h3⟩
set_option maxRecDepth 100000 in
set_option maxHeartbeats 1000000 in
theorem vscaled_c {S : Nat → Prop} {w : World} {v : Value} {T : TypeId} {vs : List Value} {l : List Rat} (hS : Up S w) (hown : Own 0 T 3 w v l.length (catV vs)) (hv : ElsV true 3 ratF S w vs l) (hd : ∀ k, S k → some k ≠ v.ownBlock)
    (hl : ∀ x ∈ l, rl x 400000000000) (hf : ∀ x ∈ l, Fits (x / leadL l)) (hne : 0 ≤ fpos Not0 l 0) :
    Gives Tryz.prog 141 [v] w fun r w' => r = .tuple #[] ∧ Keeps (fun k => some k ≠ v.ownBlock) w w' ∧ ∃ vs', Own 0 T 3 w' v l.length (catV vs') ∧ ElsV true 3 ratF S w' vs' (scaleL l) := by
  have hmx := hv.len
  have hmx2 : l.length ≤ maxLen := by obtain ⟨S', hr⟩ := own_row hown; exact hr.len_le
  unfold maxLen at hmx2
  obtain ⟨p, hp, hpl, hp0⟩ := fpos_hit hne
  rw [Nat.zero_add] at hp
  have hlead : leadL l = l.getD p 0 := by unfold leadL; rw [hp]; rfl
  have hp1 : l[p]? = some (leadL l) := by rw [hlead, List.getD_eq_getElem?_getD, List.getElem?_eq_getElem hpl]; rfl
  have hmem : ∀ {j}, j < l.length → l.getD j 0 ∈ l := fun {j} hj => by rw [List.getD_eq_getElem?_getD, List.getElem?_eq_getElem hj]; exact List.getElem_mem _
  have hnum : (leadL l).num ≠ 0 := fun h => hp0 (by rw [← hlead]; exact Rat.num_eq_zero.1 h)
  refine t_givesK (E := env) (S0 := fun k => S k ∨ some k = (v).ownBlock) (K := fun k => some k ≠ (v).ownBlock) (G := (elsG true 3 ratF vs l)) (l := [.one (.sl v l.length)]) (hp := [.row T 3 v l.length (catV vs)]) (β := fun _ => 0) Tryz.func141 rfl rfl rfl ⟨own_slice hown, trivial⟩ rfl (mem_row hown) (Gh.mono (elsG true 3 ratF vs l) (S := S) hv (fun k _ hk => sof_row hd k hk)) ?_
  refine s_KM (.one (.int .i64 (fpos Not0 l 0))) ⟨env_ok, up_row hS, lent_row⟩ (by kernel_rfl) (by kernel_rfl) (svB_ok rfl) rfl (fun β S w hS hM hs hw hG => have hv := hG; ⟨_, (by kernel_rfl), vindex_c 172 (up_row hS) (hv.seq (row_mem (T := T) (b := 0) (s := 3) (n := l.length) (v := v) (cs := catV vs) (by kernel_rfl) hM) rfl) (fun _ _ _ _ _ h1 _ h3 => vnot1_c h1 h3)⟩) ?_
  refine s_no (p := fpos Not0 l 0 < 0) ⟨env_ok, up_row hS, lent_row⟩ (by kernel_rfl) (by kernel_rfl) (by kernel_rfl) (by omega) ?_
  refine s_go ⟨env_ok, up_row hS, lent_row⟩ (by kernel_rfl) (t_idx v l.length (fpos Not0 l 0) 42 3 (by kernel_rfl) ⟨env_ok, up_row hS, lent_row⟩ (by omega) (by omega) (fun β S w hM hw hG => let ⟨S', h⟩ := row_at 0 T 3 l.length v (catV vs) (by kernel_rfl) hM; ⟨S', _, _, h⟩) ?_)
  refine s_go ⟨env_ok, up_row hS, lent_row⟩ (by kernel_rfl) (t_ofM (.pointer (some (adr v ((fpos Not0 l 0).toNat * 3)))) 42 3 true (fun x0 => .one (.ag 3 x0)) (fun x0 => ratG x0 ((leadL l))) (by kernel_rfl) ⟨env_ok, up_row hS, lent_row⟩ (fun _ _ _ h => ⟨h.ok, rfl⟩) (fun β S w hM hw hG => have hv := hG; by rw [hp]; exact hv.own (row_mem (T := T) (b := 0) (s := 3) (n := l.length) (v := v) (cs := catV vs) (by kernel_rfl) hM) rfl hp1) ?_)
  intro by0
  refine s_loop (ι := Nat × List Value) [(4, 4), (15, 30)] (fun i => [(15, .one (.int .i64 (i.1 : Int)))]) (fun i => [(0, .row T 3 v l.length (catV i.2))]) (fun i => ((elsG true 3 ratF i.2 (partL l (leadL l) i.1)).and ((ratG by0 ((leadL l))).and (elsG true 3 ratF vs l)))) (fun i => i.1 ≤ l.length) (fun i => l.length - i.1) ((0, vs)) ⟨env_ok, up_row hS, lent_row⟩ (by kernel_rfl) (by kernel_rfl) (fun β => (by kernel_rfl)) (fun β => (by kernel_rfl)) (by kernel_rfl) (Nat.zero_le _) (fun S w hw hG => have hv := hG.2; ⟨listOk ⟨trivial, trivial⟩, listOk2 ⟨trivial, trivial⟩⟩) (fun S w hw hG => have hv := hG.2; ⟨(by rw [partL_zero]; exact hv), hG⟩) (fun hso i hi => ?_)
  refine s_if (p := (i.1 : Int) < (l.length : Int)) ⟨env_ok, up_row hS, lent_row⟩ (by kernel_rfl) (by kernel_rfl) (by kernel_rfl) (fun hlt => ?_) (fun hlt => ?_)
  · have hlt' : i.1 < l.length := by omega
    have hg0 := partL_get (b := leadL l) hlt'
    refine s_drawn 11 ⟨env_ok, up_row hS, lent_row⟩ (by kernel_rfl) (by kernel_rfl) (by kernel_rfl) ?_
    refine hd_run 4 (fun η => (by kernel_rfl)) ?_
    refine hd_atM (fun η => v) l.length (i.1 : Int) 42 3 (fun u0 => pureG (u0 = .pointer (some (adr v (Int.toNat (i.1 : Int) * 3))))) (fun η => (by kernel_rfl)) (fun η => (by kernel_rfl)) ⟨env_ok, up_row hS, lent_row⟩ (fun β η S w hM hw hG hd => ⟨by omega, by omega, (let ⟨S', h⟩ := row_at 0 T 3 l.length v (catV i.2) (by kernel_rfl) hM; ⟨S', _, _, h⟩), rfl⟩) ?_
    refine hd_ofM (fun η => η 4) 42 3 true (fun x0 => .one (.ag 3 x0)) (fun x0 => ratG x0 ((l.getD i.1 0))) (fun η => (by kernel_rfl)) (fun η => (by kernel_rfl)) ⟨env_ok, up_row hS, lent_row⟩ (fun _ _ _ h => ⟨h.ok, rfl⟩) (fun β η S w hM hw hG hd => have ho := hG.1; by have e := (dep hd 4 (by kernel_rfl) (by kernel_rfl) : (pureG ((η 4) = .pointer (some (adr v (Int.toNat (i.1 : Int) * 3))))).p S w); simp only at e; rw [e]; exact ho.own (row_mem (T := T) (b := 0) (s := 3) (n := l.length) (v := v) (cs := catV i.2) (by kernel_rfl) hM) partL_len.symm hg0) ?_
    refine hd_run 1 (fun η => (by kernel_rfl)) ?_
    refine h_1 (fun x0 => pr (.ag 3 (tupAt x0)) (.lit .i64 0)) (fun x0 => tryG x0 ((l.getD i.1 0 / leadL l)) 0) (fun η => (by kernel_rfl)) (fun _ _ _ h => tryG_ok h) (fun β η S w hS hs hw hG hd => have hb := hG.2.1; ⟨_, (by kernel_rfl), fit_g (hf _ (hmem hlt')) (rquo_c hS (dep hd 5 (by kernel_rfl) (by kernel_rfl) : (ratG (η 5) ((l.getD i.1 0))).p S w) hb (hl _ (hmem hlt')) (hl _ (List.mem_of_getElem? hp1)) hnum)⟩) ?_
    refine hd_run 2 (fun η => (by kernel_rfl)) ?_
    refine h_1 (fun x0 => .one (.ag 3 x0)) (fun x0 => ratG x0 ((l.getD i.1 0 / leadL l))) (fun η => (by kernel_rfl)) (fun _ _ _ h => ⟨h.ok, rfl⟩) (fun β η S w hS hs hw hG hd => ⟨_, (by kernel_rfl), vmust_c hS ((dep hd 7 (by kernel_rfl) (by kernel_rfl) : (tryG (η 7) ((l.getD i.1 0 / leadL l)) 0).p S w)).2⟩) ?_
    refine hd_done (fun η => ((ratG (η 10) ((l.getD i.1 0 / leadL l))).and ((tryG (η 7) ((l.getD i.1 0 / leadL l)) 0).and ((ratG (η 5) ((l.getD i.1 0))).and ((pureG ((η 4) = .pointer (some (adr v (Int.toNat (i.1 : Int) * 3))))).and ((elsG true 3 ratF i.2 (partL l (leadL l) i.1)).and ((ratG by0 ((leadL l))).and (elsG true 3 ratF vs l)))))))) (by kernel_rfl) (fun η => (by kernel_rfl)) ?_
    intro η_1
    refine s_go ⟨env_ok, up_row hS, lent_row⟩ (by kernel_rfl) (t_idx v l.length (i.1 : Int) 42 3 (by kernel_rfl) ⟨env_ok, up_row hS, lent_row⟩ (by omega) (by omega) (fun β S w hM hw hG => let ⟨S', h⟩ := row_at 0 T 3 l.length v (catV i.2) (by kernel_rfl) hM; ⟨S', _, _, h⟩) ?_)
    refine s_go ⟨env_ok, up_row hS, lent_row⟩ (by kernel_rfl) (t_st (T := T) (s := 3) (n := l.length) (cs := catV i.2) 0 ((i.1 : Int).toNat * 3) v 3 [.ag 3 (η_1 10)] (catV (i.2.set i.1 (η_1 10))) (by kernel_rfl) (by kernel_rfl) ⟨env_ok, up_row hS, lent_row⟩ (by decide) (by omega) (fun β S w hw hG => by rw [Int.toNat_natCast, cells_ag]; exact catV_set hG.2.2.2.2.1.lies (by rw [hG.2.2.2.2.1.len, partL_len]; exact hlt'))  ?_)
    refine s_vc (ps := [InR .i64 ((i.1 : Int) + 1)]) ⟨env_ok, up_row hS, lent_row⟩ (by kernel_rfl) (by simp only [AllT, InR, and_true]; omega) ?_
    exact s_again ((i.1 + 1, i.2.set i.1 (η_1 10))) ⟨env_ok, up_row hS, lent_row⟩ hso (by kernel_rfl) (by kernel_rfl) (fun β => (by kernel_rfl)) (fun β => (by kernel_rfl)) (by kernel_rfl) (by omega) (by simp only; omega) (fun S w hw hG => have hr := hG.1; have ho := hG.2.2.2.2.1; ⟨listOk ⟨trivial, trivial⟩, listOk2 ⟨trivial, trivial⟩⟩) (fun S w hw hG => have hr := hG.1; have ho := hG.2.2.2.2.1; ⟨(by rw [partL_succ hlt']; exact ho.set hr.lies hr), hG.2.2.2.2.2⟩)
  · refine s_out ⟨env_ok, up_row hS, lent_row⟩ (by kernel_rfl) (by kernel_rfl) ?_
    exact s_retM (.tuple #[]) ⟨env_ok, up_row hS, lent_row⟩ (by kernel_rfl) rfl (by kernel_rfl) (fun β => (by kernel_rfl)) (fun β S w hM hs hw hG => have ho := hG.1; ⟨rfl, hw, i.2, row_mem (T := T) (b := 0) (s := 3) (n := l.length) (v := v) (cs := catV i.2) (by kernel_rfl) hM, by have e : i.1 = l.length := (by omega); rw [e, partL_all] at ho; exact ⟨ho.len, ho.lies, fun j a x h1 h2 => (ho.el j a x h1 h2).mono fun k _ hk => sof_back (T := T) (s := 3) (n := l.length) (cs := catV i.2) 0 (by kernel_rfl) (hs k hk)⟩⟩)
end Go.Proofs.YtpheooheinfbgaaGreatDoor
end
section
set_option linter.unusedVariables false
set_option linter.unusedSimpArgs false
namespace Go.Proofs.YtpheooheinfbgaaGreatDoor
open Go Go.RowKit
namespace T3
def list (t : T3) : List Rat := [t.x, t.y, t.z]
theorem lead_list (t : T3) : leadL t.list = t.lead := by
  unfold leadL lead list fpos fpos fpos fpos Not0
  by_cases h1 : t.x = 0
  · by_cases h2 : t.y = 0
    · by_cases h3 : t.z = 0
      · simp [h1, h2, h3]
      · simp [h1, h2, h3]
    · simp [h1, h2]
  · simp [h1]
theorem normal_list (t : T3) : scaleL t.list = t.normal.list := by
  unfold scaleL
  rw [lead_list]
  rfl
theorem fpos_list {t : T3} (h : ¬ t.None) : 0 ≤ fpos Not0 t.list 0 := by
  refine fpos_some.1 ?_
  unfold None at h
  by_cases h1 : t.x = 0
  · by_cases h2 : t.y = 0
    · exact ⟨t.z, by simp [list], fun h3 => h ⟨h1, h2, h3⟩⟩
    · exact ⟨t.y, by simp [list], h2⟩
  · exact ⟨t.x, by simp [list], h1⟩
end T3
theorem tri_cells {a b c : Value} (ha : Lies true 3 a) (hb : Lies true 3 b) (hc : Lies true 3 c) : (tri3 a b c).cells.toList = catV [a, b, c] := by
  simp [tri3, SV.den, cellsL, Ch.cells, Value.cells, catV]
theorem TripV.els {S : Nat → Prop} {w : World} {v : Value} {t : T3} (h : TripV S w v t) : ∃ vs, v.cells.toList = catV vs ∧ ElsV true 3 ratF S w vs t.list := by
  obtain ⟨a, b, c, rfl, h1, h2, h3⟩ := h
  refine ⟨[a, b, c], tri_cells h1.lies h2.lies h3.lies, rfl, fun x hx => ?_, fun i q x hq hx => ?_⟩
  · simp only [List.mem_cons, List.not_mem_nil, or_false] at hx
    rcases hx with rfl | rfl | rfl
    · exact h1.lies
    · exact h2.lies
    · exact h3.lies
  · match i with
    | 0 => simp [T3.list] at hq hx; subst hq hx; exact h1
    | 1 => simp [T3.list] at hq hx; subst hq hx; exact h2
    | 2 => simp [T3.list] at hq hx; subst hq hx; exact h3
    | i + 3 => simp [T3.list] at hq
theorem TripV.of_els {S : Nat → Prop} {w : World} {vs : List Value} {t : T3} (h : ElsV true 3 ratF S w vs t.list) : ∃ v, TripV S w v t ∧ v.cells.toList = catV vs := by
  obtain ⟨h1, h2, h3⟩ := h
  match vs, h1 with
  | [a, b, c], _ => exact ⟨tri3 a b c, ⟨a, b, c, rfl, h3 0 _ _ rfl rfl, h3 1 _ _ rfl rfl, h3 2 _ _ rfl rfl⟩, tri_cells (h2 a (by simp)) (h2 b (by simp)) (h2 c (by simp))⟩
set_option maxRecDepth 100000 in
theorem vwin_c {S : Nat → Prop} {w : World} {b : Nat} (hS : Up S w) : Gives Tryz.prog 113 [.pointer (some ⟨b, 0, none⟩)] w fun v w' => v = .slice (some ⟨b, 0, none⟩) 3 3 ∧ Ext w w' := by
  refine t_gives (E := env) (S0 := S) (G := Gh.nil) (l := [.one (.val (.pointer (some ⟨b, 0, none⟩)))]) Tryz.func113 rfl rfl rfl ⟨rfl, trivial⟩ rfl trivial ?_
  refine s_go ⟨env_ok, hS, noLent⟩ (by kernel_rfl) (t_nilP ⟨b, 0, none⟩ (by kernel_rfl) ⟨env_ok, hS, noLent⟩  ?_)
  refine s_go ⟨env_ok, hS, noLent⟩ (by kernel_rfl) (t_winP b 3 (by kernel_rfl) ⟨env_ok, hS, noLent⟩  ?_)
  exact s_ret (.slice (some ⟨b, 0, none⟩) 3 3) ⟨env_ok, hS, noLent⟩ (by kernel_rfl) rfl (by kernel_rfl) (fun β => (by kernel_rfl)) (fun S w hs hw hG => ⟨rfl, hw⟩)
theorem vscaledT_c {S : Nat → Prop} {w : World} {v : Value} {t : T3} {β : Nat → Nat} {m : Nat} (hS : Up S w) (h : TripV S w v t) (hB : Blk w (β 0) 44 (cellsL β [.ag 9 v])) (hb : ¬ S (β 0)) (hn : ¬ t.None) (hl : tl t 400000000000) (hf : Fits t.normal.x ∧ Fits t.normal.y ∧ Fits t.normal.z) :
    Gives Tryz.prog 141 [.slice (some ⟨β 0, 0, none⟩) 3 3] w fun r w' => Wrt (β 0) w w' ∧ ∃ x, r = SV.und.den β ∧ SV.und.Ok m ∧ True ∧ Blk w' (β 0) 44 (cellsL β [.ag 9 x]) ∧ (∀ ch ∈ [Ch.ag 9 x], ch.Ok m) ∧ (triG x t.normal).p S w' := by
  obtain ⟨vs, e1, e2⟩ := h.els
  rw [cells_ag, e1] at hB
  have ho : Own 0 44 3 w (.slice (some ⟨β 0, 0, none⟩) 3 3) 3 (catV vs) := own_blk hB (Nat.zero_le _) (by decide) (by rw [catV_len e2.lies, e2.len]; rfl)
  have he : leadL t.list = t.lead := T3.lead_list t
  refine (vscaled_c (T := 44) hS ho e2 (fun k hk e => hb (by cases e; exact hk)) (fun x hx => ?_) (fun x hx => ?_) (T3.fpos_list hn)).mono ?_
  · simp only [T3.list, List.mem_cons, List.not_mem_nil, or_false] at hx
    rcases hx with rfl | rfl | rfl
    · exact hl.1
    · exact hl.2.1
    · exact hl.2.2
  · rw [he]
    simp only [T3.list, List.mem_cons, List.not_mem_nil, or_false] at hx
    rcases hx with rfl | rfl | rfl
    · exact hf.1
    · exact hf.2.1
    · exact hf.2.2
  · rintro r w' ⟨rfl, k, vs', h1, h2⟩
    rw [T3.normal_list] at h2
    obtain ⟨x', h3, h4⟩ := TripV.of_els h2
    exact ⟨k.mono fun i hi e => hi (by cases e; rfl), x', rfl, trivial, trivial, by rw [cells_ag, h4]; exact blk_own h1, fun c hc => by rw [List.mem_singleton.1 hc]; exact Ch.Ok.up (c := .ag 9 x') h3.ok, h3⟩
set_option maxRecDepth 100000 in
theorem vnormT_c {S : Nat → Prop} {w : World} {v : Value} {t : T3} (hS : Up S w) (h : TripV S w v t) (hnn : ¬ t.None) (hl : tl t 400000000000) (hf : Fits t.normal.x ∧ Fits t.normal.y ∧ Fits t.normal.z) :
    Gives Tryz.prog 112 [v, .func (.func 113) #[] #[]] w fun v' w' => Ext w w' ∧ TripV S w' v' t.normal := by
  refine t_gives (E := env) (S0 := S) (G := (triG v (t))) (l := [.one (.ag 9 v), .one (.fn 113 [])]) Tryz.func112 rfl rfl rfl ⟨h.ok, (fun _ h => by cases h), trivial⟩ rfl h ?_
  refine s_KB (.one (.win 0 0 3 3)) ⟨env_ok, hS, noLent⟩ (by kernel_rfl) (by kernel_rfl) (Nat.le_of_ble_eq_true (by kernel_rfl)) (fun β S w hS hM hs hw hG => ⟨_, (by kernel_rfl), vwin_c hS⟩) ?_
  refine s_go ⟨env_ok, hS, noLent⟩ (by kernel_rfl) (t_callB 141 0 44 ([.ag 9 v]) ⟨env_ok, hS, noLent⟩ (by kernel_rfl) (fun _ => .und) (fun x0 => [.ag 9 x0]) (fun _ => True) (fun x0 => triG x0 (t.normal)) (by kernel_rfl) (fun β S w hS hs hw hG hB hn => have h := hG; ⟨_, (by kernel_rfl), vscaledT_c hS h hB hn hnn hl hf⟩) ?_)
  intro x _
  exact s_ret (x) ⟨env_ok, hS, noLent⟩ (by kernel_rfl) rfl (by kernel_rfl) (fun β => (by kernel_rfl)) (fun S w hs hw hG => have h2 := hG.1; ⟨hw, h2.mono fun k _ hk => hs k hk⟩)
end Go.Proofs.YtpheooheinfbgaaGreatDoor
end
section
set_option linter.unusedVariables false
set_option linter.unusedSimpArgs false
namespace Go.Proofs.YtpheooheinfbgaaGreatDoor
open Go Go.RowKit
set_option maxRecDepth 100000 in
theorem vnormal_c {S : Nat → Prop} {w : World} {v : Value} {t : T3} (hS : Up S w) (h : TripV S w v t) (hnn : ¬ t.None) (hl : tl t 400000000000) (hf : Fits t.normal.x ∧ Fits t.normal.y ∧ Fits t.normal.z) :
    Gives Tryz.prog 75 [v] w fun v' w' => Ext w w' ∧ TripV S w' v' t.normal := by
  refine t_gives (E := env) (S0 := S) (G := (triG v (t))) (l := [.one (.ag 9 v)]) Tryz.func75 rfl rfl rfl ⟨h.ok, trivial⟩ rfl h ?_
  refine s_1 (fun x0 => .one (.ag 9 x0)) (fun x0 => triG x0 (t.normal)) ⟨env_ok, hS, noLent⟩ (by kernel_rfl) (by kernel_rfl) (fun _ _ _ h => ⟨h.ok, rfl⟩) (fun β S w hS hs hw hG => have h := hG; ⟨_, (by kernel_rfl), vnormT_c hS h hnn hl hf⟩) ?_
  intro x
  exact s_ret (x) ⟨env_ok, hS, noLent⟩ (by kernel_rfl) rfl (by kernel_rfl) (fun β => (by kernel_rfl)) (fun S w hs hw hG => have h2 := hG.1; ⟨hw, h2.mono fun k _ hk => hs k hk⟩)
theorem tl_fits {t : T3} {n : Nat} (h : tl t n) (hn : n ≤ 3344) : Fits t.x ∧ Fits t.y ∧ Fits t.z := ⟨fits_rl h.1 hn, fits_rl h.2.1 hn, fits_rl h.2.2 hn⟩
set_option maxRecDepth 100000 in
theorem vjoined_c {S : Nat → Prop} {w : World} {vp vq : Value} {p q : T3} {m n k : Nat} (hS : Up S w) (hp : TripV S w vp p) (hq : TripV S w vq q) (hm : tl p m) (hn : tl q n) (hmn : 2 * (m + n + 1) + 1 ≤ 3344) (hk : tl (p.cross q).normal k) (hk2 : k ≤ 3344) (hs0 : ¬ T3.Same p q) :
    Gives Tryz.prog 42 [vp, vq] w fun v' w' => Ext w w' ∧ TripV S w' v' (p.cross q).normal := by
  refine t_gives (E := env) (S0 := S) (G := ((triG vp (p)).and (triG vq (q)))) (l := [.one (.ag 9 vp), .one (.ag 9 vq)]) Tryz.func42 rfl rfl rfl ⟨hp.ok, hq.ok, trivial⟩ rfl ⟨hp, hq⟩ ?_
  refine s_1 (fun x0 => .one (.ag 9 x0)) (fun x0 => triG x0 ((p.cross q))) ⟨env_ok, hS, noLent⟩ (by kernel_rfl) (by kernel_rfl) (fun _ _ _ h => ⟨h.ok, rfl⟩) (fun β S w hS hs hw hG => have hp := hG.1; have hq := hG.2; ⟨_, (by kernel_rfl), vcross_c hS hp hq hm hn hmn⟩) ?_
  intro c
  refine s_K (.one (.tp (p.cross q).None)) ⟨env_ok, hS, noLent⟩ (by kernel_rfl) (by kernel_rfl) (svB_ok rfl) rfl (fun β S w hS hs hw hG => have hc := hG.1; ⟨_, (by kernel_rfl), visNone_c hS hc⟩) ?_
  refine s_no (p := (p.cross q).None) ⟨env_ok, hS, noLent⟩ (by kernel_rfl) (by kernel_rfl) (by kernel_rfl) (hs0) ?_
  refine s_1 (fun x0 => .one (.ag 9 x0)) (fun x0 => triG x0 ((p.cross q).normal)) ⟨env_ok, hS, noLent⟩ (by kernel_rfl) (by kernel_rfl) (fun _ _ _ h => ⟨h.ok, rfl⟩) (fun β S w hS hs hw hG => have hc := hG.1; ⟨_, (by kernel_rfl), vnormal_c hS hc hs0 (tl_up (tl_cross hm hn) (by omega)) (tl_fits hk hk2)⟩) ?_
  intro r
  exact s_ret (r) ⟨env_ok, hS, noLent⟩ (by kernel_rfl) rfl (by kernel_rfl) (fun β => (by kernel_rfl)) (fun S w hs hw hG => have hr := hG.1; ⟨hw, hr.mono fun k _ hk => hs k hk⟩)
set_option maxRecDepth 100000 in
theorem vjoined_x {S : Nat → Prop} {w : World} {vp vq : Value} {p q : T3} {m n : Nat} (hS : Up S w) (hp : TripV S w vp p) (hq : TripV S w vq q) (hm : tl p m) (hn : tl q n) (hmn : 2 * (m + n + 1) + 1 ≤ 3344) (hs0 : T3.Same p q) :
    Pan Tryz.prog 42 [vp, vq] w (failE 61) := by
  refine t_givesE (E := env) (S0 := S) (G := ((triG vp (p)).and (triG vq (q)))) (l := [.one (.ag 9 vp), .one (.ag 9 vq)]) Tryz.func42 rfl rfl rfl ⟨hp.ok, hq.ok, trivial⟩ rfl ⟨hp, hq⟩ ?_
  refine s_1 (fun x0 => .one (.ag 9 x0)) (fun x0 => triG x0 ((p.cross q))) ⟨env_ok, hS, noLent⟩ (by kernel_rfl) (by kernel_rfl) (fun _ _ _ h => ⟨h.ok, rfl⟩) (fun β S w hS hs hw hG => have hp := hG.1; have hq := hG.2; ⟨_, (by kernel_rfl), vcross_c hS hp hq hm hn hmn⟩) ?_
  intro c
  refine s_K (.one (.tp (p.cross q).None)) ⟨env_ok, hS, noLent⟩ (by kernel_rfl) (by kernel_rfl) (svB_ok rfl) rfl (fun β S w hS hs hw hG => have hc := hG.1; ⟨_, (by kernel_rfl), visNone_c hS hc⟩) ?_
  refine s_yes (p := (p.cross q).None) ⟨env_ok, hS, noLent⟩ (by kernel_rfl) (by kernel_rfl) (by kernel_rfl) (hs0) ?_
  exact s_X ⟨env_ok, hS, noLent⟩ (by kernel_rfl) (by kernel_rfl) (fun β S w hS hs hw hG => ⟨_, (by kernel_rfl), pan_to (vfail_c (e := 61)) hw⟩)
open Classical in
noncomputable def badE (t : T3) : Int := if NoneL t.list then 60 else if LongL t.list then 11 else 0
open Classical in
noncomputable def checkT : List T3 → Int
  | [] => 0
  | t :: r => if badE t = 0 then checkT r else badE t
abbrev triF (x : Value) (t : T3) : Gh := triG x t
abbrev trisG (v : Value) (l : List T3) : Gh := seqG true 9 triF v l
theorem tri_seq {base : Bs} {hp : List HE} {β : Nat → Nat} {S : Nat → Prop} {w : World} {x : Value} {t : T3} (i : Nat) (T : TypeId) (hM : Mem base hp β w) (hb : nth hp i = some (.blk T [.ag 9 x])) (h : TripV S w x t) :
    SeqV true 3 ratF (fun k => S k ∨ some k = Value.ownBlock (.slice (some ⟨β i, 0, none⟩) 3 3)) w (.slice (some ⟨β i, 0, none⟩) 3 3) t.list := by
  rw [nth_eq] at hb
  have hB := (hM.blk i T _ hb).1
  obtain ⟨vs, e1, e2⟩ := h.els
  rw [cells_ag, e1] at hB
  exact e2.seq (own_blk hB (Nat.zero_le _) (by decide) (by rw [catV_len e2.lies, e2.len]; rfl)) rfl
theorem rl_list {t : T3} {n : Nat} (h : tl t n) : ∀ x ∈ t.list, rl x n := by
  intro x hx
  simp only [T3.list, List.mem_cons, List.not_mem_nil, or_false] at hx
  rcases hx with rfl | rfl | rfl
  · exact h.1
  · exact h.2.1
  · exact h.2.2
theorem bad_ok {t : T3} (h : badE t = 0) : ¬ NoneL t.list ∧ ¬ LongL t.list := by
  unfold badE at h
  split at h
  · cases h
  · split at h
    · cases h
    · exact ⟨‹_›, ‹_›⟩
theorem vchecked_x {S : Nat → Prop} {w : World} {v : Value} {t : T3} (ht : Tab w) (hS : Up S w) (h : SeqV true 3 ratF S w v t.list) (hl : tl t 1000000) (hb : badE t ≠ 0) : Pan Tryz.prog 60 [v] w (failE (badE t)) := by
  unfold badE at hb ⊢
  split
  · exact vchecked_0 hS h ‹_›
  · rw [if_neg ‹_›] at hb
    split
    · exact vchecked_l ht hS h (rl_list hl) ‹_› ‹_›
    · rw [if_neg ‹_›] at hb
      exact absurd rfl hb
theorem T3.getD_at {l : List T3} {j : Nat} (h : j < l.length) : l[j]? = some (l.getD j ⟨0, 0, 0⟩) := by rw [List.getD_eq_getElem?_getD, List.getElem?_eq_getElem h]; rfl
set_option maxRecDepth 100000 in
theorem vpoints_c {S : Nat → Prop} {w : World} {v : Value} {l : List T3} (ht : Tab w) (hS : Up S w) (h : SeqV true 9 triF S w v l) (hl : ∀ t ∈ l, tl t 1000000) (hk : ∀ t ∈ l, badE t = 0) : Gives Tryz.prog 30 [v] w fun v' w' => v' = .tuple #[] ∧ Ext w w' := by
  have hmx := h.len_le
  unfold maxLen at hmx
  refine t_gives (E := env) (S0 := S) (G := (trisG v l)) (l := [.one (.sl v l.length)]) Tryz.func30 rfl rfl rfl ⟨h.sl, trivial⟩ rfl h ?_
  refine s_loop (ι := Nat) [(3, 3), (6, 12)] (fun j => [(6, .one (.int .i64 (j : Int)))]) (fun _ => []) (fun j => (trisG v l)) (fun j => j ≤ l.length) (fun j => l.length - j) (0) ⟨env_ok, hS, noLent⟩ (by kernel_rfl) (by kernel_rfl) (fun β => (by kernel_rfl)) (fun β => (by kernel_rfl)) (by kernel_rfl) (Nat.zero_le _) (fun S w hw hG => ⟨ov_free rfl, fun p hp => by cases hp⟩) (fun S w hw hG => hG) (fun hso j hj => ?_)
  refine s_if (p := (j : Int) < (l.length : Int)) ⟨env_ok, hS, noLent⟩ (by kernel_rfl) (by kernel_rfl) (by kernel_rfl) (fun hlt => ?_) (fun hlt => ?_)
  · have hlt' : j < l.length := by omega
    have hx0 := T3.getD_at hlt'
    have hm := List.mem_of_getElem? hx0
    refine s_go ⟨env_ok, hS, noLent⟩ (by kernel_rfl) (t_at v l.length (j : Int) 44 9 (fun u0 => atG true 9 (fun x0 => triG x0 ((l.getD j ⟨0, 0, 0⟩))) u0) (by kernel_rfl) ⟨env_ok, hS, noLent⟩ (fun β S w hM hw hG => have h := hG; h.el rfl rfl hx0) ?_)
    intro u_1
    refine s_go ⟨env_ok, hS, noLent⟩ (by kernel_rfl) (t_of u_1 44 9 true (fun x0 => .one (.ag 9 x0)) (fun x0 => triG x0 ((l.getD j ⟨0, 0, 0⟩))) (by kernel_rfl) ⟨env_ok, hS, noLent⟩ (fun S w hw hG => hG.1) (fun _ _ _ h => ⟨h.ok, rfl⟩) ?_)
    intro x
    refine s_KM (.und) ⟨env_ok, hS, noLent⟩ (by kernel_rfl) (by kernel_rfl) (svB_ok rfl) rfl (fun β S w hS hM hs hw hG => have hx := hG.1; ⟨_, (by kernel_rfl), vchecked_c (ht.to hw) (up_row hS) (tri_seq 0 44 hM (by kernel_rfl) hx) (rl_list (hl _ hm)) (bad_ok (hk _ hm)).1 (bad_ok (hk _ hm)).2⟩) ?_
    refine s_vc (ps := [InR .i64 ((j : Int) + 1)]) ⟨env_ok, hS, noLent⟩ (by kernel_rfl) (by simp only [AllT, InR, and_true]; omega) ?_
    exact s_again (j + 1) ⟨env_ok, hS, noLent⟩ hso (by kernel_rfl) (by kernel_rfl) (fun β => (by kernel_rfl)) (fun β => (by kernel_rfl)) (by kernel_rfl) (by omega) (by omega) (fun S w hw hG => ⟨ov_free rfl, fun p hp => by cases hp⟩) (fun S w hw hG => hG.2.2)
  · refine s_out ⟨env_ok, hS, noLent⟩ (by kernel_rfl) (by kernel_rfl) ?_
    exact s_ret (.tuple #[]) ⟨env_ok, hS, noLent⟩ (by kernel_rfl) rfl (by kernel_rfl) (fun β => (by kernel_rfl)) (fun S w hs hw hG => ⟨rfl, hw⟩)
set_option maxRecDepth 100000 in
theorem vpoints_x {S : Nat → Prop} {w : World} {v : Value} {l : List T3} {n : Nat} (ht : Tab w) (hS : Up S w) (h : SeqV true 9 triF S w v l) (hl : ∀ t ∈ l, tl t 1000000) (hn : n < l.length) (hb : badE (l.getD n ⟨0, 0, 0⟩) ≠ 0) (hk : ∀ i, i < n → badE (l.getD i ⟨0, 0, 0⟩) = 0) : Pan Tryz.prog 30 [v] w (failE (badE (l.getD n ⟨0, 0, 0⟩))) := by
  have hmx := h.len_le
  unfold maxLen at hmx
  refine t_givesE (E := env) (S0 := S) (G := (trisG v l)) (l := [.one (.sl v l.length)]) Tryz.func30 rfl rfl rfl ⟨h.sl, trivial⟩ rfl h ?_
  refine s_loop (ι := Nat) [(3, 3), (6, 12)] (fun j => [(6, .one (.int .i64 (j : Int)))]) (fun _ => []) (fun j => (trisG v l)) (fun j => j ≤ n) (fun j => n - j) (0) ⟨env_ok, hS, noLent⟩ (by kernel_rfl) (by kernel_rfl) (fun β => (by kernel_rfl)) (fun β => (by kernel_rfl)) (by kernel_rfl) (Nat.zero_le _) (fun S w hw hG => ⟨ov_free rfl, fun p hp => by cases hp⟩) (fun S w hw hG => hG) (fun hso j hj => ?_)
  have hlt' : j < l.length := by omega
  refine s_yes (p := (j : Int) < (l.length : Int)) ⟨env_ok, hS, noLent⟩ (by kernel_rfl) (by kernel_rfl) (by kernel_rfl) (by omega) ?_
  have hx0 := T3.getD_at hlt'
  have hm := List.mem_of_getElem? hx0
  refine s_go ⟨env_ok, hS, noLent⟩ (by kernel_rfl) (t_at v l.length (j : Int) 44 9 (fun u0 => atG true 9 (fun x0 => triG x0 ((l.getD j ⟨0, 0, 0⟩))) u0) (by kernel_rfl) ⟨env_ok, hS, noLent⟩ (fun β S w hM hw hG => have h := hG; h.el rfl rfl hx0) ?_)
  intro u_1
  refine s_go ⟨env_ok, hS, noLent⟩ (by kernel_rfl) (t_of u_1 44 9 true (fun x0 => .one (.ag 9 x0)) (fun x0 => triG x0 ((l.getD j ⟨0, 0, 0⟩))) (by kernel_rfl) ⟨env_ok, hS, noLent⟩ (fun S w hw hG => hG.1) (fun _ _ _ h => ⟨h.ok, rfl⟩) ?_)
  intro x
  by_cases e : j = n
  · subst e
    exact s_XM ⟨env_ok, hS, noLent⟩ (by kernel_rfl) (by kernel_rfl) (fun β S w hS hM hs hw hG => have hx := hG.1; ⟨_, (by kernel_rfl), pan_sub (vchecked_x (ht.to hw) (up_row hS) (tri_seq 0 44 hM (by kernel_rfl) hx) (hl _ hm) hb) (fun w' hk' ρ => ⟨rfl, hw.trans hk'⟩)⟩)
  · have hj0 := bad_ok (hk j (by omega))
    refine s_KM (.und) ⟨env_ok, hS, noLent⟩ (by kernel_rfl) (by kernel_rfl) (svB_ok rfl) rfl (fun β S w hS hM hs hw hG => have hx := hG.1; ⟨_, (by kernel_rfl), vchecked_c (ht.to hw) (up_row hS) (tri_seq 0 44 hM (by kernel_rfl) hx) (rl_list (hl _ hm)) hj0.1 hj0.2⟩) ?_
    refine s_vc (ps := [InR .i64 ((j : Int) + 1)]) ⟨env_ok, hS, noLent⟩ (by kernel_rfl) (by simp only [AllT, InR, and_true]; omega) ?_
    exact s_again (j + 1) ⟨env_ok, hS, noLent⟩ hso (by kernel_rfl) (by kernel_rfl) (fun β => (by kernel_rfl)) (fun β => (by kernel_rfl)) (by kernel_rfl) (by omega) (by omega) (fun S w hw hG => ⟨ov_free rfl, fun p hp => by cases hp⟩) (fun S w hw hG => hG.2.2)
end Go.Proofs.YtpheooheinfbgaaGreatDoor
end
section
set_option linter.unusedVariables false
set_option linter.unusedSimpArgs false
namespace Go.Proofs.YtpheooheinfbgaaGreatDoor
open Go Go.RowKit
abbrev triP (u : Value) (t : T3) : Gh := atG true 9 (fun x => triG x t) u
theorem cells_ags {β : Nat → Nat} {n : Nat} : ∀ {vs : List Value}, cellsL β (vs.map (Ch.ag n)) = catV vs := by
  intro vs
  induction vs with
  | nil => rfl
  | cons x r ih => simp only [cellsL, catV, List.map_cons, List.flatMap_cons, Ch.cells] at ih ⊢; rw [ih]
theorem blk_seq {α : Type} {base : Bs} {hp : List HE} {β : Nat → Nat} {g : Bool} {s : Nat} {F : Value → α → Gh} {S : Nat → Prop} {w : World} {l : List α} (i : Nat) (T : TypeId) (vs : List Value) (hM : Mem base hp β w) (hb : nth hp i = some (.blk T (vs.map (Ch.ag s)))) (h : ElsV g s F S w vs l) (hl : l.length ≤ maxLen) :
    SeqV g s F (fun k => S k ∨ some k = Value.ownBlock (.slice (some ⟨β i, 0, none⟩) l.length l.length)) w (.slice (some ⟨β i, 0, none⟩) l.length l.length) l := by
  rw [nth_eq] at hb
  have hB := (hM.blk i T _ hb).1
  rw [cells_ags] at hB
  exact h.seq (own_blk hB (Nat.zero_le _) hl (by rw [catV_len h.lies, h.len])) rfl
theorem TripV.lies {S : Nat → Prop} {w : World} {v : Value} {t : T3} (h : TripV S w v t) : Lies true 9 v := by
  obtain ⟨a, b, c, rfl, h1, h2, h3⟩ := h
  have e := tri_cells h1.lies h2.lies h3.lies
  refine ⟨by rw [e, catV_len (g := true) (s := 3) (vs := [a, b, c])]; · rfl
             · intro x hx
               simp only [List.mem_cons, List.not_mem_nil, or_false] at hx
               rcases hx with rfl | rfl | rfl
               · exact h1.lies
               · exact h2.lies
               · exact h3.lies, ?_⟩
  simp [tri3, SV.den, Value.cells]
theorem els2 {S : Nat → Prop} {w : World} {a b : Value} {p q : T3} (h1 : TripV S w a p) (h2 : TripV S w b q) : ElsV true 9 triF S w [a, b] [p, q] := by
  refine ⟨rfl, fun x hx => ?_, fun i t x hq hx => ?_⟩
  · simp only [List.mem_cons, List.not_mem_nil, or_false] at hx
    rcases hx with rfl | rfl
    · exact h1.lies
    · exact h2.lies
  · match i with
    | 0 => simp at hq hx; subst hq hx; exact h1
    | 1 => simp at hq hx; subst hq hx; exact h2
    | i + 2 => simp at hq
theorem mem2 {p q : T3} {P : T3 → Prop} (h1 : P p) (h2 : P q) : ∀ t ∈ [p, q], P t := by
  intro t ht
  simp only [List.mem_cons, List.not_mem_nil, or_false] at ht
  rcases ht with rfl | rfl
  · exact h1
  · exact h2
set_option maxRecDepth 100000 in
theorem vJoin1_c {S : Nat → Prop} {w : World} {u1 u2 : Value} {p q : T3} {m n k : Nat} (ht : Tab w) (hS : Up S w) (o1 : u1.oneCell' = true) (o2 : u2.oneCell' = true) (h1 : (triP u1 p).p S w) (h2 : (triP u2 q).p S w) (hm : tl p m) (hn : tl q n) (hmn : 2 * (m + n + 1) + 1 ≤ 3344) (hk : tl (p.cross q).normal k) (hk2 : k ≤ 3344)
    (hp0 : badE p = 0) (hq0 : badE q = 0) (hs0 : ¬ T3.Same p q) :
    Gives Tryz.prog 41 [u1, u2] w fun v' w' => Ext w w' ∧ TripV S w' v' (p.cross q).normal := by
  refine t_gives (E := env) (S0 := S) (G := ((triP u1 p).and (triP u2 q))) (l := [.one (.val u1), .one (.val u2)]) Tryz.func41 rfl rfl rfl ⟨o1, o2, trivial⟩ rfl ⟨h1, h2⟩ ?_
  refine s_go ⟨env_ok, hS, noLent⟩ (by kernel_rfl) (t_ofM u1 44 9 true (fun x0 => .one (.ag 9 x0)) (fun x0 => triG x0 (p)) (by kernel_rfl) ⟨env_ok, hS, noLent⟩ (fun _ _ _ h => ⟨h.ok, rfl⟩) (fun β S w hM hw hG => have h1 := hG.1; let ⟨y, e1, e2, e3⟩ := h1; ⟨S, y, e1, e2, e3⟩) ?_)
  intro x
  refine s_go ⟨env_ok, hS, noLent⟩ (by kernel_rfl) (t_ofM u2 44 9 true (fun x0 => .one (.ag 9 x0)) (fun x0 => triG x0 (q)) (by kernel_rfl) ⟨env_ok, hS, noLent⟩ (fun _ _ _ h => ⟨h.ok, rfl⟩) (fun β S w hM hw hG => have h2 := hG.2.2; let ⟨y, e1, e2, e3⟩ := h2; ⟨S, y, e1, e2, e3⟩) ?_)
  intro y
  refine s_KM (.und) ⟨env_ok, hS, noLent⟩ (by kernel_rfl) (by kernel_rfl) (svB_ok rfl) rfl (fun β S w hS hM hs hw hG => have hy := hG.1; have hx := hG.2.1; ⟨_, (by kernel_rfl), vpoints_c (ht.to hw) (up_row hS) (blk_seq 1 44 [x, y] hM (by kernel_rfl) (els2 hx hy) (show 2 ≤ maxLen by decide)) (mem2 (tl_up hm (by omega)) (tl_up hn (by omega))) (mem2 hp0 hq0)⟩) ?_
  refine s_go ⟨env_ok, hS, noLent⟩ (by kernel_rfl) (t_ofM u1 44 9 true (fun x0 => .one (.ag 9 x0)) (fun x0 => triG x0 (p)) (by kernel_rfl) ⟨env_ok, hS, noLent⟩ (fun _ _ _ h => ⟨h.ok, rfl⟩) (fun β S w hM hw hG => have h1 := hG.2.2.1; let ⟨y, e1, e2, e3⟩ := h1; ⟨S, y, e1, e2, e3⟩) ?_)
  intro x2
  refine s_go ⟨env_ok, hS, noLent⟩ (by kernel_rfl) (t_ofM u2 44 9 true (fun x0 => .one (.ag 9 x0)) (fun x0 => triG x0 (q)) (by kernel_rfl) ⟨env_ok, hS, noLent⟩ (fun _ _ _ h => ⟨h.ok, rfl⟩) (fun β S w hM hw hG => have h2 := hG.2.2.2.2; let ⟨y, e1, e2, e3⟩ := h2; ⟨S, y, e1, e2, e3⟩) ?_)
  intro y2
  refine s_1 (fun x0 => .one (.ag 9 x0)) (fun x0 => triG x0 ((p.cross q).normal)) ⟨env_ok, hS, noLent⟩ (by kernel_rfl) (by kernel_rfl) (fun _ _ _ h => ⟨h.ok, rfl⟩) (fun β S w hS hs hw hG => have hy2 := hG.1; have hx2 := hG.2.1; ⟨_, (by kernel_rfl), vjoined_c hS hx2 hy2 hm hn hmn hk hk2 hs0⟩) ?_
  intro r
  exact s_ret (r) ⟨env_ok, hS, noLent⟩ (by kernel_rfl) rfl (by kernel_rfl) (fun β => (by kernel_rfl)) (fun S w hs hw hG => have hr := hG.1; ⟨hw, hr.mono fun k _ hk => hs k hk⟩)
set_option maxRecDepth 100000 in
theorem vJoin1_x {S : Nat → Prop} {w : World} {u1 u2 : Value} {p q : T3} {m n : Nat} (ht : Tab w) (hS : Up S w) (o1 : u1.oneCell' = true) (o2 : u2.oneCell' = true) (h1 : (triP u1 p).p S w) (h2 : (triP u2 q).p S w) (hm : tl p m) (hn : tl q n) (hmn : 2 * (m + n + 1) + 1 ≤ 3344)
    (hp0 : badE p = 0) (hq0 : badE q = 0) (hs0 : T3.Same p q) :
    Pan Tryz.prog 41 [u1, u2] w (failE 61) := by
  refine t_givesE (E := env) (S0 := S) (G := ((triP u1 p).and (triP u2 q))) (l := [.one (.val u1), .one (.val u2)]) Tryz.func41 rfl rfl rfl ⟨o1, o2, trivial⟩ rfl ⟨h1, h2⟩ ?_
  refine s_go ⟨env_ok, hS, noLent⟩ (by kernel_rfl) (t_ofM u1 44 9 true (fun x0 => .one (.ag 9 x0)) (fun x0 => triG x0 (p)) (by kernel_rfl) ⟨env_ok, hS, noLent⟩ (fun _ _ _ h => ⟨h.ok, rfl⟩) (fun β S w hM hw hG => have h1 := hG.1; let ⟨y, e1, e2, e3⟩ := h1; ⟨S, y, e1, e2, e3⟩) ?_)
  intro x
  refine s_go ⟨env_ok, hS, noLent⟩ (by kernel_rfl) (t_ofM u2 44 9 true (fun x0 => .one (.ag 9 x0)) (fun x0 => triG x0 (q)) (by kernel_rfl) ⟨env_ok, hS, noLent⟩ (fun _ _ _ h => ⟨h.ok, rfl⟩) (fun β S w hM hw hG => have h2 := hG.2.2; let ⟨y, e1, e2, e3⟩ := h2; ⟨S, y, e1, e2, e3⟩) ?_)
  intro y
  refine s_KM (.und) ⟨env_ok, hS, noLent⟩ (by kernel_rfl) (by kernel_rfl) (svB_ok rfl) rfl (fun β S w hS hM hs hw hG => have hy := hG.1; have hx := hG.2.1; ⟨_, (by kernel_rfl), vpoints_c (ht.to hw) (up_row hS) (blk_seq 1 44 [x, y] hM (by kernel_rfl) (els2 hx hy) (show 2 ≤ maxLen by decide)) (mem2 (tl_up hm (by omega)) (tl_up hn (by omega))) (mem2 hp0 hq0)⟩) ?_
  refine s_go ⟨env_ok, hS, noLent⟩ (by kernel_rfl) (t_ofM u1 44 9 true (fun x0 => .one (.ag 9 x0)) (fun x0 => triG x0 (p)) (by kernel_rfl) ⟨env_ok, hS, noLent⟩ (fun _ _ _ h => ⟨h.ok, rfl⟩) (fun β S w hM hw hG => have h1 := hG.2.2.1; let ⟨y, e1, e2, e3⟩ := h1; ⟨S, y, e1, e2, e3⟩) ?_)
  intro x2
  refine s_go ⟨env_ok, hS, noLent⟩ (by kernel_rfl) (t_ofM u2 44 9 true (fun x0 => .one (.ag 9 x0)) (fun x0 => triG x0 (q)) (by kernel_rfl) ⟨env_ok, hS, noLent⟩ (fun _ _ _ h => ⟨h.ok, rfl⟩) (fun β S w hM hw hG => have h2 := hG.2.2.2.2; let ⟨y, e1, e2, e3⟩ := h2; ⟨S, y, e1, e2, e3⟩) ?_)
  intro y2
  exact s_X ⟨env_ok, hS, noLent⟩ (by kernel_rfl) (by kernel_rfl) (fun β S w hS hs hw hG => have hy2 := hG.1; have hx2 := hG.2.1; ⟨_, (by kernel_rfl), pan_to (vjoined_x hS hx2 hy2 hm hn hmn hs0) hw⟩)
noncomputable def bad2 (p q : T3) : Int := if badE p = 0 then badE q else badE p
theorem vpoints2_x {S : Nat → Prop} {w : World} {v : Value} {p q : T3} (ht : Tab w) (hS : Up S w) (h : SeqV true 9 triF S w v [p, q]) (hm : tl p 1000000) (hn : tl q 1000000) (hb : bad2 p q ≠ 0) : Pan Tryz.prog 30 [v] w (failE (bad2 p q)) := by
  unfold bad2 at hb ⊢
  split
  · rename_i e
    rw [if_pos e] at hb
    exact vpoints_x (n := 1) ht hS h (mem2 hm hn) (show 1 < 2 by decide) hb (fun i hi => by
      obtain rfl : i = 0 := by omega
      exact e)
  · rename_i e
    exact vpoints_x (n := 0) ht hS h (mem2 hm hn) (show 0 < 2 by decide) e (fun i hi => by omega)
set_option maxRecDepth 100000 in
theorem vJoin1_b {S : Nat → Prop} {w : World} {u1 u2 : Value} {p q : T3} (ht : Tab w) (hS : Up S w) (o1 : u1.oneCell' = true) (o2 : u2.oneCell' = true) (h1 : (triP u1 p).p S w) (h2 : (triP u2 q).p S w) (hm : tl p 1000000) (hn : tl q 1000000) (hb : bad2 p q ≠ 0) :
    Pan Tryz.prog 41 [u1, u2] w (failE (bad2 p q)) := by
  refine t_givesE (E := env) (S0 := S) (G := ((triP u1 p).and (triP u2 q))) (l := [.one (.val u1), .one (.val u2)]) Tryz.func41 rfl rfl rfl ⟨o1, o2, trivial⟩ rfl ⟨h1, h2⟩ ?_
  refine s_go ⟨env_ok, hS, noLent⟩ (by kernel_rfl) (t_ofM u1 44 9 true (fun x0 => .one (.ag 9 x0)) (fun x0 => triG x0 (p)) (by kernel_rfl) ⟨env_ok, hS, noLent⟩ (fun _ _ _ h => ⟨h.ok, rfl⟩) (fun β S w hM hw hG => have h1 := hG.1; let ⟨y, e1, e2, e3⟩ := h1; ⟨S, y, e1, e2, e3⟩) ?_)
  intro x
  refine s_go ⟨env_ok, hS, noLent⟩ (by kernel_rfl) (t_ofM u2 44 9 true (fun x0 => .one (.ag 9 x0)) (fun x0 => triG x0 (q)) (by kernel_rfl) ⟨env_ok, hS, noLent⟩ (fun _ _ _ h => ⟨h.ok, rfl⟩) (fun β S w hM hw hG => have h2 := hG.2.2; let ⟨y, e1, e2, e3⟩ := h2; ⟨S, y, e1, e2, e3⟩) ?_)
  intro y
  exact s_XM ⟨env_ok, hS, noLent⟩ (by kernel_rfl) (by kernel_rfl) (fun β S w hS hM hs hw hG => have hy := hG.1; have hx := hG.2.1; ⟨_, (by kernel_rfl), pan_to (vpoints2_x (ht.to hw) (up_row hS) (blk_seq 1 44 [x, y] hM (by kernel_rfl) (els2 hx hy) (show 2 ≤ maxLen by decide)) hm hn hb) hw⟩)
set_option maxRecDepth 100000 in
theorem vOn1_c {S : Nat → Prop} {w : World} {u1 u2 : Value} {p q : T3} {m n : Nat} (ht : Tab w) (hS : Up S w) (o1 : u1.oneCell' = true) (o2 : u2.oneCell' = true) (h1 : (triP u1 p).p S w) (h2 : (triP u2 q).p S w) (hm : tl p m) (hn : tl q n) (hmn : 3 * (m + n + 1) + 1 ≤ 3344) (hp0 : badE p = 0) (hq0 : badE q = 0) :
    Gives Tryz.prog 37 [u1, u2] w fun v' w' => v' = .bool (tst (p.dot q = 0)) ∧ Ext w w' := by
  refine t_gives (E := env) (S0 := S) (G := ((triP u1 p).and (triP u2 q))) (l := [.one (.val u1), .one (.val u2)]) Tryz.func37 rfl rfl rfl ⟨o1, o2, trivial⟩ rfl ⟨h1, h2⟩ ?_
  refine s_go ⟨env_ok, hS, noLent⟩ (by kernel_rfl) (t_ofM u1 44 9 true (fun x0 => .one (.ag 9 x0)) (fun x0 => triG x0 (p)) (by kernel_rfl) ⟨env_ok, hS, noLent⟩ (fun _ _ _ h => ⟨h.ok, rfl⟩) (fun β S w hM hw hG => have h1 := hG.1; let ⟨y, e1, e2, e3⟩ := h1; ⟨S, y, e1, e2, e3⟩) ?_)
  intro x
  refine s_go ⟨env_ok, hS, noLent⟩ (by kernel_rfl) (t_ofM u2 44 9 true (fun x0 => .one (.ag 9 x0)) (fun x0 => triG x0 (q)) (by kernel_rfl) ⟨env_ok, hS, noLent⟩ (fun _ _ _ h => ⟨h.ok, rfl⟩) (fun β S w hM hw hG => have h2 := hG.2.2; let ⟨y, e1, e2, e3⟩ := h2; ⟨S, y, e1, e2, e3⟩) ?_)
  intro y
  refine s_KM (.und) ⟨env_ok, hS, noLent⟩ (by kernel_rfl) (by kernel_rfl) (svB_ok rfl) rfl (fun β S w hS hM hs hw hG => have hy := hG.1; have hx := hG.2.1; ⟨_, (by kernel_rfl), vpoints_c (ht.to hw) (up_row hS) (blk_seq 0 44 [x, y] hM (by kernel_rfl) (els2 hx hy) (show 2 ≤ maxLen by decide)) (mem2 (tl_up hm (by omega)) (tl_up hn (by omega))) (mem2 hp0 hq0)⟩) ?_
  refine s_go ⟨env_ok, hS, noLent⟩ (by kernel_rfl) (t_ofM u1 44 9 true (fun x0 => .one (.ag 9 x0)) (fun x0 => triG x0 (p)) (by kernel_rfl) ⟨env_ok, hS, noLent⟩ (fun _ _ _ h => ⟨h.ok, rfl⟩) (fun β S w hM hw hG => have h1 := hG.2.2.1; let ⟨y, e1, e2, e3⟩ := h1; ⟨S, y, e1, e2, e3⟩) ?_)
  intro x2
  refine s_go ⟨env_ok, hS, noLent⟩ (by kernel_rfl) (t_ofM u2 44 9 true (fun x0 => .one (.ag 9 x0)) (fun x0 => triG x0 (q)) (by kernel_rfl) ⟨env_ok, hS, noLent⟩ (fun _ _ _ h => ⟨h.ok, rfl⟩) (fun β S w hM hw hG => have h2 := hG.2.2.2.2; let ⟨y, e1, e2, e3⟩ := h2; ⟨S, y, e1, e2, e3⟩) ?_)
  intro y2
  refine s_1 (fun x0 => .one (.ag 3 x0)) (fun x0 => ratG x0 ((p.dot q))) ⟨env_ok, hS, noLent⟩ (by kernel_rfl) (by kernel_rfl) (fun _ _ _ h => ⟨h.ok, rfl⟩) (fun β S w hS hs hw hG => have hy2 := hG.1; have hx2 := hG.2.1; ⟨_, (by kernel_rfl), vdot_c hS hx2 hy2 hm hn hmn⟩) ?_
  intro r
  refine s_K (.one (.tp (p.dot q = 0))) ⟨env_ok, hS, noLent⟩ (by kernel_rfl) (by kernel_rfl) (svB_ok rfl) rfl (fun β S w hS hs hw hG => have hr := hG.1; ⟨_, (by kernel_rfl), visZero_c hS hr⟩) ?_
  exact s_ret (.bool (tst (p.dot q = 0))) ⟨env_ok, hS, noLent⟩ (by kernel_rfl) rfl (by kernel_rfl) (fun β => (by kernel_rfl)) (fun S w hs hw hG => ⟨rfl, hw⟩)
set_option maxRecDepth 100000 in
theorem vOn1_b {S : Nat → Prop} {w : World} {u1 u2 : Value} {p q : T3} (ht : Tab w) (hS : Up S w) (o1 : u1.oneCell' = true) (o2 : u2.oneCell' = true) (h1 : (triP u1 p).p S w) (h2 : (triP u2 q).p S w) (hm : tl p 1000000) (hn : tl q 1000000) (hb : bad2 p q ≠ 0) :
    Pan Tryz.prog 37 [u1, u2] w (failE (bad2 p q)) := by
  refine t_givesE (E := env) (S0 := S) (G := ((triP u1 p).and (triP u2 q))) (l := [.one (.val u1), .one (.val u2)]) Tryz.func37 rfl rfl rfl ⟨o1, o2, trivial⟩ rfl ⟨h1, h2⟩ ?_
  refine s_go ⟨env_ok, hS, noLent⟩ (by kernel_rfl) (t_ofM u1 44 9 true (fun x0 => .one (.ag 9 x0)) (fun x0 => triG x0 (p)) (by kernel_rfl) ⟨env_ok, hS, noLent⟩ (fun _ _ _ h => ⟨h.ok, rfl⟩) (fun β S w hM hw hG => have h1 := hG.1; let ⟨y, e1, e2, e3⟩ := h1; ⟨S, y, e1, e2, e3⟩) ?_)
  intro x
  refine s_go ⟨env_ok, hS, noLent⟩ (by kernel_rfl) (t_ofM u2 44 9 true (fun x0 => .one (.ag 9 x0)) (fun x0 => triG x0 (q)) (by kernel_rfl) ⟨env_ok, hS, noLent⟩ (fun _ _ _ h => ⟨h.ok, rfl⟩) (fun β S w hM hw hG => have h2 := hG.2.2; let ⟨y, e1, e2, e3⟩ := h2; ⟨S, y, e1, e2, e3⟩) ?_)
  intro y
  exact s_XM ⟨env_ok, hS, noLent⟩ (by kernel_rfl) (by kernel_rfl) (fun β S w hS hM hs hw hG => have hy := hG.1; have hx := hG.2.1; ⟨_, (by kernel_rfl), pan_to (vpoints2_x (ht.to hw) (up_row hS) (blk_seq 0 44 [x, y] hM (by kernel_rfl) (els2 hx hy) (show 2 ≤ maxLen by decide)) hm hn hb) hw⟩)
end Go.Proofs.YtpheooheinfbgaaGreatDoor
end
section
set_option linter.unusedVariables false
set_option linter.unusedSimpArgs false
namespace Go.Proofs.YtpheooheinfbgaaGreatDoor
open Go Go.RowKit
def zero9 : List Value := [.bool false, .slice none 0 0, .slice none 0 0, .bool false, .slice none 0 0, .slice none 0 0, .bool false, .slice none 0 0, .slice none 0 0]
theorem zero9_one : ∀ v ∈ zero9, v.oneCell' = true := by
  intro v hv
  simp only [zero9, List.mem_cons, List.not_mem_nil, or_false] at hv
  rcases hv with rfl | rfl | rfl | rfl | rfl | rfl | rfl | rfl | rfl <;> rfl
theorem tcatch_idle {w : World} {g1 g2 : Nat} : GivesD Tryz.prog 72 [.pointer (some ⟨g1, 0, none⟩), .pointer (some ⟨g2, 0, none⟩)] .returning w fun u' w' => u' = .returning ∧ w' = w := by
  refine givesD_recover Tryz.func72 rfl rfl rfl rfl rfl (.inl ⟨rfl, rfl, rfl⟩) ?_
  repeat (first | refine r_neq_nilIface rfl ?_ | refine wp_seq_region ?_ | refine wp_region ?_ | refine r_move (by conv => (lhs; whnf)) ?_ | refine r_nil ?_ | refine q_then ?_ | refine wp_skip ?_ | refine wp_cond_false rfl ?_)
  exact ⟨[], rfl, rfl, rfl⟩
theorem tcatch_fail {w : World} {g1 g2 : Nat} {cs1 : List Value} {e : Value} {E : Int} (h1 : Blk w g1 44 cs1) (hl : cs1.length = 9) (h2 : Blk w g2 46 [e]) :
    GivesD Tryz.prog 72 [.pointer (some ⟨g1, 0, none⟩), .pointer (some ⟨g2, 0, none⟩)] (.panicking (failE E)) w fun u' w' => settle u' = .returning ∧
      Keeps (fun k => k ≠ g1 ∧ k ≠ g2) w w' ∧ Blk w' g1 44 zero9 ∧ Blk w' g2 46 [.int .i64 E] := by
  have hne : g1 ≠ g2 := h1.ne h2 (by decide)
  refine givesD_recover Tryz.func72 rfl rfl rfl rfl rfl (.inr ⟨_, rfl, rfl, rfl⟩) ?_
  repeat (first | refine r_neq_iface rfl ?_ | refine r_assert rfl ?_ | refine wp_seq_region ?_ | refine wp_region ?_ | refine r_move (by conv => (lhs; whnf)) ?_ | refine r_nil ?_ | refine q_then ?_ | refine r_extract rfl rfl ?_ | refine wp_cond_true rfl ?_)
  refine r_alloc (cs := [.int .i64 0]) rfl ?_
  intro w1 g3 k1 hg3 hgs3
  have hl1 := h1.lt
  have hl2 := h2.lt
  refine r_store_all (us := [.int .i64 E]) rfl (by conv => (lhs; whnf)) rfl rfl hg3 rfl (fun v hv => by rw [List.mem_singleton.1 hv]; rfl) ?_
  intro w2 k2 hg32
  repeat (first | refine r_not rfl ?_ | refine wp_seq_region ?_ | refine wp_seq_seq ?_ | refine wp_region ?_ | refine r_move (by conv => (lhs; whnf)) ?_ | refine r_assign (by conv => (lhs; whnf)) ?_ | refine r_nil ?_ | refine q_then ?_ | refine wp_skip ?_ | refine wp_cond_false rfl ?_)
  refine r_alloc (cs := zero9) rfl ?_
  intro w3 g5 k3 hg5 hgs5
  have k : Ext w w3 := (Keeps.past k1 k2 hgs3).trans k3
  have hg33 := hg32.to k3
  have hl3 := hg32.lt
  repeat (first | refine r_nil ?_ | refine q_then ?_)
  refine wp_drawnR (R := OneW g1 44 cs1 zero9) 4 OneW.trans OneW.drew (by kernel_rfl) (by kernel_rfl) ?_
  apply ob_stepR
  · intro x w1 k1 hd
    refine r_load_all rfl (hg5.wr k1.1 (by omega)) rfl ?_
    refine r_nil ?_
    exact ob_eqR OneW.refl
  apply ob_stepR
  · intro x w1 k1 hd
    refine r_field rfl ?_
    refine r_nil ?_
    exact ob_eqR OneW.refl
  apply ob_stepR
  · intro x w1 k1 hd
    refine r_load_blk rfl (hg33.wr k1.1 (by omega)) rfl ?_
    refine r_nil ?_
    exact ob_eqR OneW.refl
  refine ob_stepR (e := EntR.of (fun v w => Blk w g1 44 zero9) (fun v w w' h k => k.2.2 h)) ?_ ?_
  · intro x w1 k1 hd
    rcases k1.2.1 (.inl (h1.to k)) with hgx | hgx
    · refine r_store_all (us := zero9) rfl (by conv => (lhs; whnf)) rfl rfl hgx hl zero9_one ?_
      intro w12 k12 hg12
      exact r_nil (ob_doneR (OneW.wrote k12 hg12) hg12)
    · refine r_store_all (us := zero9) rfl (by conv => (lhs; whnf)) rfl rfl hgx rfl zero9_one ?_
      intro w12 k12 hg12
      exact r_nil (ob_doneR (OneW.wrote k12 hg12) hg12)
  refine ob_nilR (ob_endR ?_)
  intro x w12 k12 hall
  have h14 : Blk w12 g1 44 zero9 := hall.1
  refine r_store (u := .int .i64 E) rfl rfl ((h2.to k).wr k12.1 (fun e => hne e.symm)) (show 0 < 1 by decide) rfl ?_
  intro w5 k5 h25
  repeat (first | refine r_nil ?_)
  refine ⟨[], rfl, rfl, ?_, h14.wr k5 hne, h25⟩
  exact ((Keeps.of k).trans (k12.1.mono fun i hi => hi.1)).trans (k5.mono fun i hi => hi.2)
theorem tattempt_c {S : Nat → Prop} {w : World} {F : FuncId} [ci : CallI Tryz.prog F] {cap : List Value} {t : T3} {E : Int} {Y Z : Prop} (hS : Up S w)
    (h : ∀ S' w', Up S' w' → Ext w w' → (∀ k, S' k → S k) → (∀ k, k < w.heap.size → S k → S' k) → GivesE Tryz.prog F cap w' (fun v w'' => Ext w' w'' ∧ TripV S' w'' v t ∧ Y) fun ch w'' => ch = failE E ∧ Ext w' w'' ∧ Z) :
    Gives Tryz.prog 40 [.func (.func F) #[] cap.toArray] w fun v' w' => Ext w w' ∧ ((∃ x, v' = .tuple #[x, .int .i64 0] ∧ TripV S w' x t ∧ Y) ∨ (v' = .tuple #[.agg zero9.toArray, .int .i64 E] ∧ Z)) := by
  refine gives_of_defer Tryz.func40 rfl rfl rfl ?_
  refine wpD_seq ?_
  repeat (first | refine wp_region ?_)
  refine r_alloc (cs := zero9) rfl ?_
  intro w1 g1 k1 hg1 hgs1
  skip
  refine r_alloc (cs := [.int .i64 0]) rfl ?_
  intro w2 g2 k2 hg2 hgs2
  have hgl := hg1.lt
  have hgl2 := hg2.lt
  replace hg1 := hg1.to k2
  have k := k1.trans k2
  have hk1 := k1.size
  have hk2 := k2.size
  have hS2 : Up (fun k => S k ∧ k ≠ g1 ∧ k ≠ g2) w2 := fun i hi => ⟨hS i (by omega), by omega, by omega⟩
  have hc := h (fun k => S k ∧ k ≠ g1 ∧ k ≠ g2) w2 hS2 k (fun _ h => h.1) (fun i hi hs => ⟨hs, by omega, by omega⟩)
  repeat (first | refine r_nil ?_ | refine q_then ?_)
  refine wpD_seq_defer ?_
  refine wpD_end ?_ (fun e a ρ w hm hq => defQ_end hm hq)
  repeat (first | refine wp_seq_region ?_ | refine wp_region ?_ | refine r_move (by conv => (lhs; whnf)) ?_)
  refine r_callvE (first := []) (cap := cap) rfl hc rfl ?_ ?_
  · rintro v3 w3 ⟨k3, hf, hy⟩
    obtain ⟨us, hv, hul, hu1⟩ := hf.ok
    skip
    refine r_store_all (us := us) rfl (by conv => (lhs; whnf)) (by rw [hv]; rfl) hul (hg1.to k3) rfl hu1 ?_
    intro w4 k4 hg4
    have hg24 := (hg2.to k3).wr k4 (by omega)
    refine r_store (u := .int .i64 0) rfl rfl hg24 (show 0 < 1 by decide) rfl ?_
    intro w5 k5 hg5
    have hg45 := hg4.wr k5 (by omega)
    repeat (first | refine r_nil ?_ | refine q_then ?_ | refine wp_ret ?_)
    refine tcatch_idle.mono ?_
    rintro u' w' ⟨rfl, rfl⟩
    refine ⟨rfl, [.agg us.toArray, .int .i64 0], ⟨_, _, resV_agg (by conv => (lhs; whnf)) hg45 hul, ⟨_, _, resV_one (by conv => (lhs; whnf)) hg5, rfl, rfl⟩, rfl⟩, ?_⟩
    refine ⟨((Keeps.past (k.trans k3) k4 (by omega)).past k5 (by omega)), .inl ⟨_, rfl, ?_, hy⟩⟩
    rw [← hv]
    exact ((hf.keep (k4.mono fun i hi => hi.2.1)).keep (k5.mono fun i hi => hi.2.2)).mono fun i _ hi => hi.1
  · rintro ch w3 ⟨rfl, k3, hf⟩
    refine q_then_panic ?_
    refine (tcatch_fail (hg1.to k3) rfl (hg2.to k3)).mono ?_
    rintro u' w' ⟨hu, k4, h1, h2⟩
    refine ⟨hu, [.agg zero9.toArray, .int .i64 E], ⟨_, _, resV_agg (by conv => (lhs; whnf)) h1 rfl, ⟨_, _, resV_one (by conv => (lhs; whnf)) h2, rfl, rfl⟩, rfl⟩, ?_⟩
    exact ⟨Keeps.later (k.trans k3) k4 (fun i hi _ => ⟨by omega, by omega⟩), .inr ⟨rfl, hf⟩⟩
end Go.Proofs.YtpheooheinfbgaaGreatDoor
end
section
set_option linter.unusedVariables false
set_option linter.unusedSimpArgs false
namespace Go.Proofs.YtpheooheinfbgaaGreatDoor
open Go Go.RowKit
theorem Gives.toE {P : Program} {f : FuncId} {args : List Value} {w : World} {Ψ : Value → World → Prop} {Φ : List PanicEntry → World → Prop} (h : Gives P f args w Ψ) : GivesE P f args w Ψ Φ :=
  Calls.mono h fun e w' ⟨v, he, hv⟩ => by subst he; exact hv
abbrev ttryG (v : Value) (t : T3) (e : Int) : Gh := ⟨fun S w => v = .tuple #[tupAt v, .int .i64 e] ∧ TripV S w (tupAt v) t, fun h k => ⟨h.1, h.2.keep k⟩, fun h k => ⟨h.1, h.2.mono k⟩⟩
theorem ttryG_ok {v : Value} {t : T3} {e : Int} {S : Nat → Prop} {w : World} (h : (ttryG v t e).p S w) : (pr (.ag 9 (tupAt v)) (.int .i64 e)).Ok 0 ∧ (pr (.ag 9 (tupAt v)) (.int .i64 e)).den (fun _ => 0) = v := ⟨ok_pr h.2.ok trivial, h.1.symm⟩
theorem zero_tri {S : Nat → Prop} {w : World} : TripV S w (.agg zero9.toArray) ⟨0, 0, 0⟩ := ⟨_, _, _, rfl, zero_rat, zero_rat, zero_rat⟩
theorem blk_triP {S : Nat → Prop} {w : World} {u v : Value} {t : T3} {T : TypeId} (h : (blkG u T (cellsL (fun _ => 0) [.ag 9 v])).p S w) (hv : TripV S w v t) : (triP u t).p S w := by
  obtain ⟨b, rfl, hs, hB⟩ := h
  rw [cells_ag] at hB
  exact ⟨v, hv.lies, ⟨b, 0, v.cells.toList.toArray, T, (0, 0), rfl, hs, hB, by simp, by rw [List.drop_zero]; exact List.take_of_length_le (Nat.le_refl _)⟩, hv⟩
theorem blk_one {S : Nat → Prop} {w : World} {u : Value} {T : TypeId} {cs : List Value} (h : (blkG u T cs).p S w) : u.oneCell' = true := by
  obtain ⟨b, rfl, _⟩ := h
  rfl
noncomputable def joinE (p q : T3) : Int := if bad2 p q = 0 then (if T3.Same p q then 61 else 0) else bad2 p q
noncomputable def joinT (p q : T3) : T3 := if joinE p q = 0 then (p.cross q).normal else ⟨0, 0, 0⟩
theorem bad2_ok {p q : T3} (h : bad2 p q = 0) : badE p = 0 ∧ badE q = 0 := by
  unfold bad2 at h
  split at h
  · exact ⟨‹_›, h⟩
  · exact absurd h ‹_›
theorem vJoinA_c {S : Nat → Prop} {w : World} {u1 u2 : Value} {p q : T3} {m n k : Nat} (ht : Tab w) (hS : Up S w) (o1 : u1.oneCell' = true) (o2 : u2.oneCell' = true) (h1 : (triP u1 p).p S w) (h2 : (triP u2 q).p S w) (hm : tl p m) (hn : tl q n) (hmn : 2 * (m + n + 1) + 1 ≤ 3344) (hk : tl (p.cross q).normal k) (hk2 : k ≤ 3344) :
    Gives Tryz.prog 40 [.func (.func 41) #[] #[u1, u2]] w fun v' w' => Ext w w' ∧ (ttryG v' (joinT p q) (joinE p q)).p S w' := by
  have key : ∀ S' w', Up S' w' → Ext w w' → (∀ k, S' k → S k) → (∀ k, k < w.heap.size → S k → S' k) → GivesE Tryz.prog 41 [u1, u2] w' (fun v w'' => Ext w' w'' ∧ TripV S' w'' v (joinT p q) ∧ joinE p q = 0) fun ch w'' => ch = failE (joinE p q) ∧ Ext w' w'' ∧ ¬ joinE p q = 0 := by
    intro S' w' hS' k' _ hs'
    have g1 := (triP u1 p).keep ((triP u1 p).mono h1 hs') (.of k')
    have g2 := (triP u2 q).keep ((triP u2 q).mono h2 hs') (.of k')
    by_cases hb : bad2 p q = 0
    · obtain ⟨b1, b2⟩ := bad2_ok hb
      by_cases hs : T3.Same p q
      · have e : joinE p q = 61 := by unfold joinE; rw [if_pos hb, if_pos hs]
        exact (vJoin1_x (ht.to k') hS' o1 o2 g1 g2 hm hn hmn b1 b2 hs).mono (fun _ _ h => h.elim) fun ch w'' h => ⟨by rw [e]; exact h.1, h.2, by rw [e]; decide⟩
      · have e : joinE p q = 0 := by unfold joinE; rw [if_pos hb, if_neg hs]
        have e2 : joinT p q = (p.cross q).normal := by unfold joinT; rw [if_pos e]
        exact Gives.toE ((vJoin1_c (ht.to k') hS' o1 o2 g1 g2 hm hn hmn hk hk2 b1 b2 hs).mono fun v w'' h => ⟨h.1, by rw [e2]; exact h.2, e⟩)
    · have e : joinE p q = bad2 p q := by unfold joinE; rw [if_neg hb]
      exact (vJoin1_b (ht.to k') hS' o1 o2 g1 g2 (tl_up hm (by omega)) (tl_up hn (by omega)) hb).mono (fun _ _ h => h.elim) fun ch w'' h => ⟨by rw [e]; exact h.1, h.2, by rw [e]; exact hb⟩
  refine (tattempt_c (F := 41) (cap := [u1, u2]) hS key).mono ?_
  rintro v' w' ⟨k', ⟨x, rfl, h, e⟩ | ⟨rfl, e⟩⟩
  · exact ⟨k', by rw [e]; rfl, h⟩
  · exact ⟨k', rfl, by unfold joinT; rw [if_neg e]; exact zero_tri⟩
set_option maxRecDepth 100000 in
theorem vJoin_c {S : Nat → Prop} {w : World} {vp vq : Value} {p q : T3} {m n k : Nat} (ht : Tab w) (hS : Up S w) (hp : TripV S w vp p) (hq : TripV S w vq q) (hm : tl p m) (hn : tl q n) (hmn : 2 * (m + n + 1) + 1 ≤ 3344) (hk : tl (p.cross q).normal k) (hk2 : k ≤ 3344) :
    Gives Tryz.prog 13 [vp, vq] w fun v' w' => Ext w w' ∧ (ttryG v' (joinT p q) (joinE p q)).p S w' := by
  refine t_gives (E := env) (S0 := S) (G := ((triG vp (p)).and (triG vq (q)))) (l := [.one (.ag 9 vp), .one (.ag 9 vq)]) Tryz.func13 rfl rfl rfl ⟨hp.ok, hq.ok, trivial⟩ rfl ⟨hp, hq⟩ ?_
  refine s_go ⟨env_ok, hS, noLent⟩ (by kernel_rfl) (t_giveB 0 44 ([.ag 9 vp]) (by kernel_rfl) (by kernel_rfl) ⟨env_ok, hS, noLent⟩ (fun u1 => ?_))
  refine s_go ⟨env_ok, hS, noLent⟩ (by kernel_rfl) (t_giveB 1 44 ([.ag 9 vq]) (by kernel_rfl) (by kernel_rfl) ⟨env_ok, hS, noLent⟩ (fun u2 => ?_))
  refine s_1 (fun x0 => pr (.ag 9 (tupAt x0)) (.int .i64 ((joinE p q)))) (fun x0 => ttryG x0 ((joinT p q)) ((joinE p q))) ⟨env_ok, hS, noLent⟩ (by kernel_rfl) (by kernel_rfl) (fun _ _ _ h => ttryG_ok h) (fun β S w hS hs hw hG => have hb2 := hG.1; have hb1 := hG.2.1; have hp := hG.2.2.1; have hq := hG.2.2.2; ⟨_, (by kernel_rfl), vJoinA_c (ht.to hw) hS (blk_one hb1) (blk_one hb2) (blk_triP hb1 hp) (blk_triP hb2 hq) hm hn hmn hk hk2⟩) ?_
  intro r
  exact s_ret (.tuple #[tupAt r, .int .i64 (joinE p q)]) ⟨env_ok, hS, noLent⟩ (by kernel_rfl) rfl (by kernel_rfl) (fun β => (by kernel_rfl)) (fun S w hs hw hG => have hr := hG.1; ⟨hw, rfl, hr.2.mono fun k _ hk => hs k hk⟩)
end Go.Proofs.YtpheooheinfbgaaGreatDoor
end
section
set_option linter.unusedVariables false
set_option linter.unusedSimpArgs false
namespace Go.Proofs.YtpheooheinfbgaaGreatDoor
open Go Go.RowKit
theorem bcatch_idle {w : World} {g1 g2 : Nat} : GivesD Tryz.prog 59 [.pointer (some ⟨g1, 0, none⟩), .pointer (some ⟨g2, 0, none⟩)] .returning w fun u' w' => u' = .returning ∧ w' = w := by
  refine givesD_recover Tryz.func59 rfl rfl rfl rfl rfl (.inl ⟨rfl, rfl, rfl⟩) ?_
  repeat (first | refine r_neq_nilIface rfl ?_ | refine wp_seq_region ?_ | refine wp_region ?_ | refine r_move (by conv => (lhs; whnf)) ?_ | refine r_nil ?_ | refine q_then ?_ | refine wp_skip ?_ | refine wp_cond_false rfl ?_)
  exact ⟨[], rfl, rfl, rfl⟩
theorem bcatch_fail {w : World} {g1 g2 : Nat} {e1 e : Value} {E : Int} (h1 : Blk w g1 4 [e1]) (h2 : Blk w g2 46 [e]) :
    GivesD Tryz.prog 59 [.pointer (some ⟨g1, 0, none⟩), .pointer (some ⟨g2, 0, none⟩)] (.panicking (failE E)) w fun u' w' => settle u' = .returning ∧
      Keeps (fun k => k ≠ g1 ∧ k ≠ g2) w w' ∧ Blk w' g1 4 [.bool false] ∧ Blk w' g2 46 [.int .i64 E] := by
  have hne : g1 ≠ g2 := h1.ne h2 (by decide)
  refine givesD_recover Tryz.func59 rfl rfl rfl rfl rfl (.inr ⟨_, rfl, rfl, rfl⟩) ?_
  repeat (first | refine r_neq_iface rfl ?_ | refine r_assert rfl ?_ | refine wp_seq_region ?_ | refine wp_region ?_ | refine r_move (by conv => (lhs; whnf)) ?_ | refine r_nil ?_ | refine q_then ?_ | refine r_extract rfl rfl ?_ | refine wp_cond_true rfl ?_)
  refine r_alloc (cs := [.int .i64 0]) rfl ?_
  intro w1 g3 k1 hg3 hgs3
  have hl1 := h1.lt
  have hl2 := h2.lt
  refine r_store_all (us := [.int .i64 E]) rfl (by conv => (lhs; whnf)) rfl rfl hg3 rfl (fun v hv => by rw [List.mem_singleton.1 hv]; rfl) ?_
  intro w2 k2 hg32
  have k : Ext w w2 := Keeps.past k1 k2 hgs3
  have hg33 := hg32
  repeat (first | refine r_not rfl ?_ | refine wp_seq_region ?_ | refine wp_seq_seq ?_ | refine wp_region ?_ | refine r_move (by conv => (lhs; whnf)) ?_ | refine r_assign (by conv => (lhs; whnf)) ?_ | refine r_nil ?_ | refine q_then ?_ | refine wp_skip ?_ | refine wp_cond_false rfl ?_)
  have hl3 := hg32.lt
  refine wp_drawnR (R := OneW g1 4 [e1] [.bool false]) 4 OneW.trans OneW.drew (by kernel_rfl) (by kernel_rfl) ?_
  apply ob_stepR
  · intro x w1 k1 hd
    refine r_move rfl ?_
    refine r_nil ?_
    exact ob_eqR OneW.refl
  apply ob_stepR
  · intro x w1 k1 hd
    refine r_field rfl ?_
    refine r_nil ?_
    exact ob_eqR OneW.refl
  apply ob_stepR
  · intro x w1 k1 hd
    refine r_load_blk rfl (hg33.wr k1.1 (by omega)) rfl ?_
    refine r_nil ?_
    exact ob_eqR OneW.refl
  refine ob_stepR (e := EntR.of (fun v w => Blk w g1 4 [.bool false]) (fun v w w' h k => k.2.2 h)) ?_ ?_
  · intro x w1 k1 hd
    rcases k1.2.1 (.inl (h1.to k)) with hgx | hgx
    · refine r_store (u := .bool false) rfl rfl hgx (show 0 < 1 by decide) rfl ?_
      intro w12 k12 hg12
      exact r_nil (ob_doneR (OneW.wrote k12 hg12) hg12)
    · refine r_store (u := .bool false) rfl rfl hgx (show 0 < 1 by decide) rfl ?_
      intro w12 k12 hg12
      exact r_nil (ob_doneR (OneW.wrote k12 hg12) hg12)
  refine ob_nilR (ob_endR ?_)
  intro x w12 k12 hall
  have h14 : Blk w12 g1 4 [.bool false] := hall.1
  refine r_store (u := .int .i64 E) rfl rfl ((h2.to k).wr k12.1 (fun e => hne e.symm)) (show 0 < 1 by decide) rfl ?_
  intro w5 k5 h25
  repeat (first | refine r_nil ?_)
  refine ⟨[], rfl, rfl, ?_, h14.wr k5 hne, h25⟩
  exact ((Keeps.of k).trans (k12.1.mono fun i hi => hi.1)).trans (k5.mono fun i hi => hi.2)
theorem battempt_c {S : Nat → Prop} {w : World} {F : FuncId} [ci : CallI Tryz.prog F] {cap : List Value} {b : Bool} {E : Int} {Y Z : Prop} (hS : Up S w)
    (h : ∀ S' w', Up S' w' → Ext w w' → (∀ k, S' k → S k) → (∀ k, k < w.heap.size → S k → S' k) → GivesE Tryz.prog F cap w' (fun v w'' => Ext w' w'' ∧ v = .bool b ∧ Y) fun ch w'' => ch = failE E ∧ Ext w' w'' ∧ Z) :
    Gives Tryz.prog 28 [.func (.func F) #[] cap.toArray] w fun v' w' => Ext w w' ∧ ((v' = .tuple #[.bool b, .int .i64 0] ∧ Y) ∨ (v' = .tuple #[.bool false, .int .i64 E] ∧ Z)) := by
  refine gives_of_defer Tryz.func28 rfl rfl rfl ?_
  refine wpD_seq ?_
  repeat (first | refine wp_region ?_)
  refine r_alloc (cs := [.bool false]) rfl ?_
  intro w1 g1 k1 hg1 hgs1
  skip
  refine r_alloc (cs := [.int .i64 0]) rfl ?_
  intro w2 g2 k2 hg2 hgs2
  have hgl := hg1.lt
  have hgl2 := hg2.lt
  replace hg1 := hg1.to k2
  have k := k1.trans k2
  have hk1 := k1.size
  have hk2 := k2.size
  have hS2 : Up (fun k => S k ∧ k ≠ g1 ∧ k ≠ g2) w2 := fun i hi => ⟨hS i (by omega), by omega, by omega⟩
  have hc := h (fun k => S k ∧ k ≠ g1 ∧ k ≠ g2) w2 hS2 k (fun _ h => h.1) (fun i hi hs => ⟨hs, by omega, by omega⟩)
  repeat (first | refine r_nil ?_ | refine q_then ?_)
  refine wpD_seq_defer ?_
  refine wpD_end ?_ (fun e a ρ w hm hq => defQ_end hm hq)
  repeat (first | refine wp_seq_region ?_ | refine wp_region ?_ | refine r_move (by conv => (lhs; whnf)) ?_)
  refine r_callvE (first := []) (cap := cap) rfl hc rfl ?_ ?_
  · rintro v3 w3 ⟨k3, rfl, hy⟩
    skip
    refine r_store (u := .bool b) rfl rfl (hg1.to k3) (show 0 < 1 by decide) rfl ?_
    intro w4 k4 hg4
    have hg24 := (hg2.to k3).wr k4 (by omega)
    refine r_store (u := .int .i64 0) rfl rfl hg24 (show 0 < 1 by decide) rfl ?_
    intro w5 k5 hg5
    have hg45 := hg4.wr k5 (by omega)
    repeat (first | refine r_nil ?_ | refine q_then ?_ | refine wp_ret ?_)
    refine bcatch_idle.mono ?_
    rintro u' w' ⟨rfl, rfl⟩
    refine ⟨rfl, [.bool b, .int .i64 0], ⟨_, _, resV_one (by conv => (lhs; whnf)) hg45, ⟨_, _, resV_one (by conv => (lhs; whnf)) hg5, rfl, rfl⟩, rfl⟩, ?_⟩
    exact ⟨((Keeps.past (k.trans k3) k4 (by omega)).past k5 (by omega)), .inl ⟨rfl, hy⟩⟩
  · rintro ch w3 ⟨rfl, k3, hf⟩
    refine q_then_panic ?_
    refine (bcatch_fail (hg1.to k3) (hg2.to k3)).mono ?_
    rintro u' w' ⟨hu, k4, h1, h2⟩
    refine ⟨hu, [.bool false, .int .i64 E], ⟨_, _, resV_one (by conv => (lhs; whnf)) h1, ⟨_, _, resV_one (by conv => (lhs; whnf)) h2, rfl, rfl⟩, rfl⟩, ?_⟩
    exact ⟨Keeps.later (k.trans k3) k4 (fun i hi _ => ⟨by omega, by omega⟩), .inr ⟨rfl, hf⟩⟩
def OnP (p q : T3) : Prop := bad2 p q = 0 ∧ p.dot q = 0
theorem vOnA_c {S : Nat → Prop} {w : World} {u1 u2 : Value} {p q : T3} {m n : Nat} (ht : Tab w) (hS : Up S w) (o1 : u1.oneCell' = true) (o2 : u2.oneCell' = true) (h1 : (triP u1 p).p S w) (h2 : (triP u2 q).p S w) (hm : tl p m) (hn : tl q n) (hmn : 3 * (m + n + 1) + 1 ≤ 3344) :
    Gives Tryz.prog 28 [.func (.func 37) #[] #[u1, u2]] w fun v' w' => Ext w w' ∧ v' = .tuple #[.bool (tst (OnP p q)), .int .i64 (bad2 p q)] := by
  have key : ∀ S' w', Up S' w' → Ext w w' → (∀ k, S' k → S k) → (∀ k, k < w.heap.size → S k → S' k) → GivesE Tryz.prog 37 [u1, u2] w' (fun v w'' => Ext w' w'' ∧ v = .bool (tst (OnP p q)) ∧ bad2 p q = 0) fun ch w'' => ch = failE (bad2 p q) ∧ Ext w' w'' ∧ ¬ bad2 p q = 0 := by
    intro S' w' hS' k' _ hs'
    have g1 := (triP u1 p).keep ((triP u1 p).mono h1 hs') (.of k')
    have g2 := (triP u2 q).keep ((triP u2 q).mono h2 hs') (.of k')
    by_cases hb : bad2 p q = 0
    · obtain ⟨b1, b2⟩ := bad2_ok hb
      exact Gives.toE ((vOn1_c (ht.to k') hS' o1 o2 g1 g2 hm hn hmn b1 b2).mono fun v w'' h => ⟨h.2, by rw [h.1]; congr 1; exact congrArg tst (propext ⟨fun e => ⟨hb, e⟩, fun e => e.2⟩), hb⟩)
    · exact (vOn1_b (ht.to k') hS' o1 o2 g1 g2 (tl_up hm (by omega)) (tl_up hn (by omega)) hb).mono (fun _ _ h => h.elim) fun ch w'' h => ⟨h.1, h.2, hb⟩
  refine (battempt_c (F := 37) (cap := [u1, u2]) hS key).mono ?_
  rintro v' w' ⟨k', ⟨rfl, e⟩ | ⟨rfl, e⟩⟩
  · exact ⟨k', by rw [e]⟩
  · exact ⟨k', by rw [tst_false fun h : OnP p q => e h.1]⟩
set_option maxRecDepth 100000 in
theorem vOn_c {S : Nat → Prop} {w : World} {vp vq : Value} {p q : T3} {m n : Nat} (ht : Tab w) (hS : Up S w) (hp : TripV S w vp p) (hq : TripV S w vq q) (hm : tl p m) (hn : tl q n) (hmn : 3 * (m + n + 1) + 1 ≤ 3344) :
    Gives Tryz.prog 12 [vp, vq] w fun v' w' => v' = .tuple #[.bool (tst (OnP p q)), .int .i64 (bad2 p q)] ∧ Ext w w' := by
  refine t_gives (E := env) (S0 := S) (G := ((triG vp (p)).and (triG vq (q)))) (l := [.one (.ag 9 vp), .one (.ag 9 vq)]) Tryz.func12 rfl rfl rfl ⟨hp.ok, hq.ok, trivial⟩ rfl ⟨hp, hq⟩ ?_
  refine s_go ⟨env_ok, hS, noLent⟩ (by kernel_rfl) (t_giveB 0 44 ([.ag 9 vp]) (by kernel_rfl) (by kernel_rfl) ⟨env_ok, hS, noLent⟩ (fun u1 => ?_))
  refine s_go ⟨env_ok, hS, noLent⟩ (by kernel_rfl) (t_giveB 1 44 ([.ag 9 vq]) (by kernel_rfl) (by kernel_rfl) ⟨env_ok, hS, noLent⟩ (fun u2 => ?_))
  refine s_K (pr (.tp (OnP p q)) (.int .i64 (bad2 p q))) ⟨env_ok, hS, noLent⟩ (by kernel_rfl) (by kernel_rfl) (svB_ok rfl) rfl (fun β S w hS hs hw hG => have hb2 := hG.1; have hb1 := hG.2.1; have hp := hG.2.2.1; have hq := hG.2.2.2; ⟨_, (by kernel_rfl), (vOnA_c (ht.to hw) hS (blk_one hb1) (blk_one hb2) (blk_triP hb1 hp) (blk_triP hb2 hq) hm hn hmn).mono fun _ _ h => ⟨h.2, h.1⟩⟩) ?_
  exact s_ret (.tuple #[.bool (tst (OnP p q)), .int .i64 (bad2 p q)]) ⟨env_ok, hS, noLent⟩ (by kernel_rfl) rfl (by kernel_rfl) (fun β => (by kernel_rfl)) (fun S w hs hw hG => ⟨rfl, hw⟩)
end Go.Proofs.YtpheooheinfbgaaGreatDoor
end
section
set_option linter.unusedVariables false
set_option linter.unusedSimpArgs false
namespace Go.Proofs.YtpheooheinfbgaaGreatDoor
open Go Go.RowKit
def T3.at (l : List T3) (i : Nat) : T3 := l.getD i ⟨0, 0, 0⟩
def GenP (l : List T3) : Prop := ∀ i j k, k < j → j < i → i < l.length → ¬ T3.Flat (T3.at l i) (T3.at l j) (T3.at l k)
theorem T3.at_get {l : List T3} {i : Nat} (h : i < l.length) : l[i]? = some (T3.at l i) := T3.getD_at h
theorem tri_row {S : Nat → Prop} {w : World} {v : Value} {l : List T3} (h : SeqV true 9 triF S w v l) : ∃ S' T' cs, Row S' T' 9 w v l.length cs := let ⟨T, vs, _, _, hr, _⟩ := h.row; ⟨S, T, _, hr⟩
theorem tri_el {S : Nat → Prop} {w : World} {v u : Value} {l : List T3} {i : Nat} (h : SeqV true 9 triF S w v l) (hi : i < l.length) (hu : u = .pointer (some (adr v (Int.toNat (i : Int) * 9)))) : ∃ S' x, Lies true 9 x ∧ At S' w u x.cells.toList ∧ (triG x (T3.at l i)).p S w := by
  subst hu
  obtain ⟨x, h1, h2, h3⟩ := h.at (T3.at_get hi)
  exact ⟨S, x, h1, h2, h3⟩
set_option maxRecDepth 100000 in
set_option maxHeartbeats 1000000 in
theorem vgeneral_c {S : Nat → Prop} {w : World} {v : Value} {l : List T3} {m : Nat} (hS : Up S w) (h : SeqV true 9 triF S w v l) (hl : ∀ t ∈ l, tl t m) (hm : 3 * (2 * (m + m) + 1 + m + 1) + 1 ≤ 3344) :
    Gives Tryz.prog 31 [v] w fun v' w' => v' = .bool (tst (GenP l)) ∧ Ext w w' := by
  have hmx := h.len_le
  unfold maxLen at hmx
  refine t_gives (E := env) (S0 := S) (G := (trisG v l)) (l := [.one (.sl v l.length)]) Tryz.func31 rfl rfl rfl ⟨h.sl, trivial⟩ rfl h ?_
  refine s_loop (ι := Nat) [(2, 5), (8, 34)] (fun i => [(8, .one (.int .i64 (i : Int)))]) (fun _ => []) (fun i => (trisG v l)) (fun i => i ≤ l.length ∧ ∀ i' j' k', k' < j' → j' < i' → i' < i → ¬ T3.Flat (T3.at l i') (T3.at l j') (T3.at l k')) (fun i => l.length - i) (0) ⟨env_ok, hS, noLent⟩ (by kernel_rfl) (by kernel_rfl) (fun β => (by kernel_rfl)) (fun β => (by kernel_rfl)) (by kernel_rfl) (⟨Nat.zero_le _, fun _ _ _ _ _ h => absurd h (Nat.not_lt_zero _)⟩) (fun S w hw hG => ⟨ov_free rfl, fun p hp => by cases hp⟩) (fun S w hw hG => hG) (fun hso i hi => ?_)
  refine s_if (p := (i : Int) < (l.length : Int)) ⟨env_ok, hS, noLent⟩ (by kernel_rfl) (by kernel_rfl) (by kernel_rfl) (fun hlt => ?_) (fun hlt => ?_)
  · have hi' : i < l.length := by omega
    have hso1 := hso
    refine s_loop (ι := Nat) [(2, 2), (4, 5), (12, 33)] (fun j => [(12, .one (.int .i64 (j : Int)))]) (fun _ => []) (fun j => (trisG v l)) (fun j => j ≤ i ∧ ∀ j' k', k' < j' → j' < j → ¬ T3.Flat (T3.at l i) (T3.at l j') (T3.at l k')) (fun j => i - j) (0) ⟨env_ok, hS, noLent⟩ (by kernel_rfl) (by kernel_rfl) (fun β => (by kernel_rfl)) (fun β => (by kernel_rfl)) (by kernel_rfl) (⟨Nat.zero_le _, fun _ _ _ h => absurd h (Nat.not_lt_zero _)⟩) (fun S w hw hG => ⟨ov_free rfl, fun p hp => by cases hp⟩) (fun S w hw hG => hG) (fun hso j hj => ?_)
    refine s_if (p := (j : Int) < (i : Int)) ⟨env_ok, hS, noLent⟩ (by kernel_rfl) (by kernel_rfl) (by kernel_rfl) (fun hlt2 => ?_) (fun hlt2 => ?_)
    · have hj' : j < l.length := by omega
      have hso2 := hso
      refine s_loop (ι := Nat) [(2, 2), (5, 5), (16, 32)] (fun k => [(16, .one (.int .i64 (k : Int)))]) (fun _ => []) (fun k => (trisG v l)) (fun k => k ≤ j ∧ ∀ k', k' < k → ¬ T3.Flat (T3.at l i) (T3.at l j) (T3.at l k')) (fun k => j - k) (0) ⟨env_ok, hS, noLent⟩ (by kernel_rfl) (by kernel_rfl) (fun β => (by kernel_rfl)) (fun β => (by kernel_rfl)) (by kernel_rfl) (⟨Nat.zero_le _, fun _ h => absurd h (Nat.not_lt_zero _)⟩) (fun S w hw hG => ⟨ov_free rfl, fun p hp => by cases hp⟩) (fun S w hw hG => hG) (fun hso k hk => ?_)
      refine s_if (p := (k : Int) < (j : Int)) ⟨env_ok, hS, noLent⟩ (by kernel_rfl) (by kernel_rfl) (by kernel_rfl) (fun hlt3 => ?_) (fun hlt3 => ?_)
      · have hk' : k < l.length := by omega
        refine s_drawn 12 ⟨env_ok, hS, noLent⟩ (by kernel_rfl) (by kernel_rfl) (by kernel_rfl) ?_
        refine hd_run 2 (fun η => (by kernel_rfl)) ?_
        refine hd_atM (fun η => v) l.length (i : Int) 44 9 (fun u0 => pureG (u0 = .pointer (some (adr v (Int.toNat (i : Int) * 9))))) (fun η => (by kernel_rfl)) (fun η => (by kernel_rfl)) ⟨env_ok, hS, noLent⟩ (fun β η S w hM hw hG hd => have h := hG; ⟨by omega, by omega, tri_row h, rfl⟩) ?_
        refine hd_ofM (fun η => η 2) 44 9 true (fun x0 => .one (.ag 9 x0)) (fun x0 => triG x0 ((T3.at l i))) (fun η => (by kernel_rfl)) (fun η => (by kernel_rfl)) ⟨env_ok, hS, noLent⟩ (fun _ _ _ h => ⟨h.ok, rfl⟩) (fun β η S w hM hw hG hd => have h := hG; tri_el h hi' (dep hd 2 (by kernel_rfl) (by kernel_rfl) : (pureG ((η 2) = .pointer (some (adr v (Int.toNat (i : Int) * 9))))).p S w)) ?_
        refine hd_run 2 (fun η => (by kernel_rfl)) ?_
        refine hd_atM (fun η => v) l.length (j : Int) 44 9 (fun u0 => pureG (u0 = .pointer (some (adr v (Int.toNat (j : Int) * 9))))) (fun η => (by kernel_rfl)) (fun η => (by kernel_rfl)) ⟨env_ok, hS, noLent⟩ (fun β η S w hM hw hG hd => have h := hG; ⟨by omega, by omega, tri_row h, rfl⟩) ?_
        refine hd_ofM (fun η => η 6) 44 9 true (fun x0 => .one (.ag 9 x0)) (fun x0 => triG x0 ((T3.at l j))) (fun η => (by kernel_rfl)) (fun η => (by kernel_rfl)) ⟨env_ok, hS, noLent⟩ (fun _ _ _ h => ⟨h.ok, rfl⟩) (fun β η S w hM hw hG hd => have h := hG; tri_el h hj' (dep hd 6 (by kernel_rfl) (by kernel_rfl) : (pureG ((η 6) = .pointer (some (adr v (Int.toNat (j : Int) * 9))))).p S w)) ?_
        refine hd_run 2 (fun η => (by kernel_rfl)) ?_
        refine hd_atM (fun η => v) l.length (k : Int) 44 9 (fun u0 => pureG (u0 = .pointer (some (adr v (Int.toNat (k : Int) * 9))))) (fun η => (by kernel_rfl)) (fun η => (by kernel_rfl)) ⟨env_ok, hS, noLent⟩ (fun β η S w hM hw hG hd => have h := hG; ⟨by omega, by omega, tri_row h, rfl⟩) ?_
        refine hd_ofM (fun η => η 10) 44 9 true (fun x0 => .one (.ag 9 x0)) (fun x0 => triG x0 ((T3.at l k))) (fun η => (by kernel_rfl)) (fun η => (by kernel_rfl)) ⟨env_ok, hS, noLent⟩ (fun _ _ _ h => ⟨h.ok, rfl⟩) (fun β η S w hM hw hG hd => have h := hG; tri_el h hk' (dep hd 10 (by kernel_rfl) (by kernel_rfl) : (pureG ((η 10) = .pointer (some (adr v (Int.toNat (k : Int) * 9))))).p S w)) ?_
        refine hd_done (fun η => ((triG (η 11) ((T3.at l k))).and ((pureG ((η 10) = .pointer (some (adr v (Int.toNat (k : Int) * 9))))).and ((triG (η 7) ((T3.at l j))).and ((pureG ((η 6) = .pointer (some (adr v (Int.toNat (j : Int) * 9))))).and ((triG (η 3) ((T3.at l i))).and ((pureG ((η 2) = .pointer (some (adr v (Int.toNat (i : Int) * 9))))).and (trisG v l)))))))) (by kernel_rfl) (fun η => (by kernel_rfl)) ?_
        intro η_1
        refine s_K (.one (.tp (T3.Flat (T3.at l i) (T3.at l j) (T3.at l k)))) ⟨env_ok, hS, noLent⟩ (by kernel_rfl) (by kernel_rfl) (svB_ok rfl) rfl (fun β S w hS hs hw hG => have hz := hG.1; have hy := hG.2.2.1; have hx := hG.2.2.2.2.1; ⟨_, (by kernel_rfl), vflat_c hS hx hy hz (hl _ (List.mem_of_getElem? (T3.at_get hi'))) (hl _ (List.mem_of_getElem? (T3.at_get hj'))) (hl _ (List.mem_of_getElem? (T3.at_get hk'))) hm⟩) ?_
        refine s_if (p := T3.Flat (T3.at l i) (T3.at l j) (T3.at l k)) ⟨env_ok, hS, noLent⟩ (by kernel_rfl) (by kernel_rfl) (by kernel_rfl) (fun hf => ?_) (fun hf => ?_)
        · refine s_out ⟨env_ok, hS, noLent⟩ (by kernel_rfl) (by kernel_rfl) ?_
          refine s_out ⟨env_ok, hS, noLent⟩ (by kernel_rfl) (by kernel_rfl) ?_
          refine s_out ⟨env_ok, hS, noLent⟩ (by kernel_rfl) (by kernel_rfl) ?_
          exact s_ret (.bool false) ⟨env_ok, hS, noLent⟩ (by kernel_rfl) rfl (by kernel_rfl) (fun β => (by kernel_rfl)) (fun S w hs hw hG => ⟨by rw [tst_false fun g : GenP l => g i j k (by omega) (by omega) hi' hf], hw⟩)
        · refine s_vc (ps := [InR .i64 ((k : Int) + 1)]) ⟨env_ok, hS, noLent⟩ (by kernel_rfl) (by simp only [AllT, InR, and_true]; omega) ?_
          exact s_again (k + 1) ⟨env_ok, hS, noLent⟩ hso (by kernel_rfl) (by kernel_rfl) (fun β => (by kernel_rfl)) (fun β => (by kernel_rfl)) (by kernel_rfl) (⟨by omega, fun k' hk2 => (Nat.lt_or_ge k' k).elim (fun h => hk.2 k' h) fun h => (by have e : k' = k := (by omega); rw [e]; exact hf)⟩) (by omega) (fun S w hw hG => ⟨ov_free rfl, fun p hp => by cases hp⟩) (fun S w hw hG => hG.2.2.2.2.2.2)
      · refine s_out ⟨env_ok, hS, noLent⟩ (by kernel_rfl) (by kernel_rfl) ?_
        refine s_vc (ps := [InR .i64 ((j : Int) + 1)]) ⟨env_ok, hS, noLent⟩ (by kernel_rfl) (by simp only [AllT, InR, and_true]; omega) ?_
        have hso := hso2
        exact s_again (j + 1) ⟨env_ok, hS, noLent⟩ hso (by kernel_rfl) (by kernel_rfl) (fun β => (by kernel_rfl)) (fun β => (by kernel_rfl)) (by kernel_rfl) (⟨by omega, fun j' k' hk2 hj2 => (Nat.lt_or_ge j' j).elim (fun h => hj.2 j' k' hk2 h) fun h => (by have e : j' = j := (by omega); rw [e]; exact hk.2 k' (by omega))⟩) (by omega) (fun S w hw hG => ⟨ov_free rfl, fun p hp => by cases hp⟩) (fun S w hw hG => hG)
    · refine s_out ⟨env_ok, hS, noLent⟩ (by kernel_rfl) (by kernel_rfl) ?_
      refine s_vc (ps := [InR .i64 ((i : Int) + 1)]) ⟨env_ok, hS, noLent⟩ (by kernel_rfl) (by simp only [AllT, InR, and_true]; omega) ?_
      have hso := hso1
      exact s_again (i + 1) ⟨env_ok, hS, noLent⟩ hso (by kernel_rfl) (by kernel_rfl) (fun β => (by kernel_rfl)) (fun β => (by kernel_rfl)) (by kernel_rfl) (⟨by omega, fun i' j' k' hk2 hj2 hi2 => (Nat.lt_or_ge i' i).elim (fun h => hi.2 i' j' k' hk2 hj2 h) fun h => (by have e : i' = i := (by omega); rw [e]; exact hj.2 j' k' hk2 (by omega))⟩) (by omega) (fun S w hw hG => ⟨ov_free rfl, fun p hp => by cases hp⟩) (fun S w hw hG => hG)
  · refine s_out ⟨env_ok, hS, noLent⟩ (by kernel_rfl) (by kernel_rfl) ?_
    exact s_ret (.bool true) ⟨env_ok, hS, noLent⟩ (by kernel_rfl) rfl (by kernel_rfl) (fun β => (by kernel_rfl)) (fun S w hs hw hG => ⟨by rw [tst_true (show GenP l from fun i' j' k' h1 h2 h3 => hi.2 i' j' k' h1 h2 (by omega))], hw⟩)
end Go.Proofs.YtpheooheinfbgaaGreatDoor
end
section
set_option linter.unusedVariables false
set_option linter.unusedSimpArgs false
namespace Go.Proofs.YtpheooheinfbgaaGreatDoor
open Go Go.RowKit
theorem checkT_ok {l : List T3} (h : checkT l = 0) : ∀ t ∈ l, badE t = 0 := by
  induction l with
  | nil => intro t ht; cases ht
  | cons a r ih =>
    unfold checkT at h
    split at h
    · intro t ht
      rcases List.mem_cons.1 ht with rfl | ht
      · assumption
      · exact ih h t ht
    · exact absurd h ‹_›
theorem checkT_bad {l : List T3} (h : ¬ checkT l = 0) : ∃ n, n < l.length ∧ badE (l.getD n ⟨0, 0, 0⟩) = checkT l ∧ ∀ i, i < n → badE (l.getD i ⟨0, 0, 0⟩) = 0 := by
  induction l with
  | nil => exact absurd rfl h
  | cons a r ih =>
    unfold checkT at h ⊢
    split
    · rename_i e
      rw [if_pos e] at h
      obtain ⟨n, h1, h2, h3⟩ := ih h
      refine ⟨n + 1, by simpa using h1, by simpa using h2, fun i hi => ?_⟩
      cases i with
      | zero => simpa using e
      | succ i => simpa using h3 i (by omega)
    · exact ⟨0, by simp, by simp, fun i hi => absurd hi (Nat.not_lt_zero _)⟩
abbrev trisP (u : Value) (l : List T3) : Gh := atG false 1 (fun x => trisG x l) u
set_option maxRecDepth 100000 in
theorem vGeneral1_c {S : Nat → Prop} {w : World} {u : Value} {l : List T3} {m : Nat} (ht : Tab w) (hS : Up S w) (o : u.oneCell' = true) (h : (trisP u l).p S w) (hl : ∀ t ∈ l, tl t m) (hm : 3 * (2 * (m + m) + 1 + m + 1) + 1 ≤ 3344) (hk : checkT l = 0) :
    Gives Tryz.prog 29 [u] w fun v' w' => v' = .bool (tst (GenP l)) ∧ Ext w w' := by
  refine t_gives (E := env) (S0 := S) (G := (trisP u l)) (l := [.one (.val u)]) Tryz.func29 rfl rfl rfl ⟨o, trivial⟩ rfl h ?_
  refine s_go ⟨env_ok, hS, noLent⟩ (by kernel_rfl) (t_ofM u 24 1 false (fun x0 => .one (.sl x0 (l).length)) (fun x0 => trisG x0 (l)) (by kernel_rfl) ⟨env_ok, hS, noLent⟩ (fun _ _ _ h => ⟨h.sl, rfl⟩) (fun β S w hM hw hG => have h := hG; let ⟨y, e1, e2, e3⟩ := h; ⟨S, y, e1, e2, e3⟩) ?_)
  intro x
  refine s_K (.und) ⟨env_ok, hS, noLent⟩ (by kernel_rfl) (by kernel_rfl) (svB_ok rfl) rfl (fun β S w hS hs hw hG => have hx := hG.1; have h := hG.2; ⟨_, (by kernel_rfl), vpoints_c (ht.to hw) hS hx (fun t h => tl_up (hl t h) (by omega)) (checkT_ok hk)⟩) ?_
  refine s_go ⟨env_ok, hS, noLent⟩ (by kernel_rfl) (t_ofM u 24 1 false (fun x0 => .one (.sl x0 (l).length)) (fun x0 => trisG x0 (l)) (by kernel_rfl) ⟨env_ok, hS, noLent⟩ (fun _ _ _ h => ⟨h.sl, rfl⟩) (fun β S w hM hw hG => have h := hG.2; let ⟨y, e1, e2, e3⟩ := h; ⟨S, y, e1, e2, e3⟩) ?_)
  intro y
  refine s_K (.one (.tp (GenP l))) ⟨env_ok, hS, noLent⟩ (by kernel_rfl) (by kernel_rfl) (svB_ok rfl) rfl (fun β S w hS hs hw hG => have hy := hG.1; ⟨_, (by kernel_rfl), vgeneral_c hS hy hl hm⟩) ?_
  exact s_ret (.bool (tst (GenP l))) ⟨env_ok, hS, noLent⟩ (by kernel_rfl) rfl (by kernel_rfl) (fun β => (by kernel_rfl)) (fun S w hs hw hG => ⟨rfl, hw⟩)
theorem vpointsL_x {S : Nat → Prop} {w : World} {v : Value} {l : List T3} (ht : Tab w) (hS : Up S w) (h : SeqV true 9 triF S w v l) (hl : ∀ t ∈ l, tl t 1000000) (hk : ¬ checkT l = 0) : Pan Tryz.prog 30 [v] w (failE (checkT l)) := by
  obtain ⟨n, h1, h2, h3⟩ := checkT_bad hk
  rw [← h2]
  exact vpoints_x ht hS h hl h1 (by rw [h2]; exact hk) h3
set_option maxRecDepth 100000 in
theorem vGeneral1_b {S : Nat → Prop} {w : World} {u : Value} {l : List T3} (ht : Tab w) (hS : Up S w) (o : u.oneCell' = true) (h : (trisP u l).p S w) (hl : ∀ t ∈ l, tl t 1000000) (hk : ¬ checkT l = 0) :
    Pan Tryz.prog 29 [u] w (failE (checkT l)) := by
  refine t_givesE (E := env) (S0 := S) (G := (trisP u l)) (l := [.one (.val u)]) Tryz.func29 rfl rfl rfl ⟨o, trivial⟩ rfl h ?_
  refine s_go ⟨env_ok, hS, noLent⟩ (by kernel_rfl) (t_ofM u 24 1 false (fun x0 => .one (.sl x0 (l).length)) (fun x0 => trisG x0 (l)) (by kernel_rfl) ⟨env_ok, hS, noLent⟩ (fun _ _ _ h => ⟨h.sl, rfl⟩) (fun β S w hM hw hG => have h := hG; let ⟨y, e1, e2, e3⟩ := h; ⟨S, y, e1, e2, e3⟩) ?_)
  intro x
  exact s_X ⟨env_ok, hS, noLent⟩ (by kernel_rfl) (by kernel_rfl) (fun β S w hS hs hw hG => have hx := hG.1; ⟨_, (by kernel_rfl), pan_to (vpointsL_x (ht.to hw) hS hx hl hk) hw⟩)
def GenQ (l : List T3) : Prop := checkT l = 0 ∧ GenP l
theorem vGeneralA_c {S : Nat → Prop} {w : World} {u : Value} {l : List T3} {m : Nat} (ht : Tab w) (hS : Up S w) (o : u.oneCell' = true) (h : (trisP u l).p S w) (hl : ∀ t ∈ l, tl t m) (hm : 3 * (2 * (m + m) + 1 + m + 1) + 1 ≤ 3344) :
    Gives Tryz.prog 28 [.func (.func 29) #[] #[u]] w fun v' w' => v' = .tuple #[.bool (tst (GenQ l)), .int .i64 (checkT l)] ∧ Ext w w' := by
  have key : ∀ S' w', Up S' w' → Ext w w' → (∀ k, S' k → S k) → (∀ k, k < w.heap.size → S k → S' k) → GivesE Tryz.prog 29 [u] w' (fun v w'' => Ext w' w'' ∧ v = .bool (tst (GenQ l)) ∧ checkT l = 0) fun ch w'' => ch = failE (checkT l) ∧ Ext w' w'' ∧ ¬ checkT l = 0 := by
    intro S' w' hS' k' _ hs'
    have g1 := (trisP u l).keep ((trisP u l).mono h hs') (.of k')
    by_cases hb : checkT l = 0
    · exact Gives.toE ((vGeneral1_c (ht.to k') hS' o g1 hl hm hb).mono fun v w'' h => ⟨h.2, by rw [h.1]; congr 1; exact congrArg tst (propext ⟨fun e => ⟨hb, e⟩, fun e => e.2⟩), hb⟩)
    · exact (vGeneral1_b (ht.to k') hS' o g1 (fun t h => tl_up (hl t h) (by omega)) hb).mono (fun _ _ h => h.elim) fun ch w'' h => ⟨h.1, h.2, hb⟩
  refine (battempt_c (F := 29) (cap := [u]) hS key).mono ?_
  rintro v' w' ⟨k', ⟨rfl, e⟩ | ⟨rfl, e⟩⟩
  · exact ⟨by rw [e], k'⟩
  · exact ⟨by rw [tst_false fun h : GenQ l => e h.1], k'⟩
theorem blk_trisP {S : Nat → Prop} {w : World} {u v : Value} {l : List T3} {T : TypeId} {n : Nat} (h : (blkG u T (cellsL (fun _ => 0) [.sl v n])).p S w) (hv : SeqV true 9 triF S w v l) : (trisP u l).p S w := by
  obtain ⟨b, rfl, hs, hB⟩ := h
  obtain ⟨T', vs, _, _, hr, _⟩ := hv.row
  obtain ⟨a, cp, rfl, _⟩ := hr.slice
  exact ⟨_, lies_one rfl, ⟨b, 0, _, T, (0, 0), rfl, hs, hB, by simp [cellsL, Ch.cells, Value.cells], by simp [cellsL, Ch.cells, Value.cells, Ch.den]⟩, hv⟩
set_option maxRecDepth 100000 in
theorem vGeneral_c {S : Nat → Prop} {w : World} {v : Value} {l : List T3} {m : Nat} (ht : Tab w) (hS : Up S w) (h : SeqV true 9 triF S w v l) (hl : ∀ t ∈ l, tl t m) (hm : 3 * (2 * (m + m) + 1 + m + 1) + 1 ≤ 3344) :
    Gives Tryz.prog 8 [v] w fun v' w' => v' = (if 12 < l.length then .tuple #[.bool false, .int .i64 1] else .tuple #[.bool (tst (GenQ l)), .int .i64 (checkT l)]) ∧ Ext w w' := by
  refine t_gives (E := env) (S0 := S) (G := (trisG v l)) (l := [.one (.sl v l.length)]) Tryz.func8 rfl rfl rfl ⟨h.sl, trivial⟩ rfl h ?_
  refine s_if (p := (12 : Int) < (l.length : Int)) ⟨env_ok, hS, noLent⟩ (by kernel_rfl) (by kernel_rfl) (by kernel_rfl) (fun h12 => ?_) (fun h12 => ?_)
  · exact s_ret (.tuple #[.bool false, .int .i64 1]) ⟨env_ok, hS, noLent⟩ (by kernel_rfl) rfl (by kernel_rfl) (fun β => (by kernel_rfl)) (fun S w hs hw hG => ⟨by rw [if_pos (by omega)], hw⟩)
  · refine s_go ⟨env_ok, hS, noLent⟩ (by kernel_rfl) (t_giveB 0 24 ([.sl v l.length]) (by kernel_rfl) (by kernel_rfl) ⟨env_ok, hS, noLent⟩ (fun u => ?_))
    refine s_K (pr (.tp (GenQ l)) (.int .i64 (checkT l))) ⟨env_ok, hS, noLent⟩ (by kernel_rfl) (by kernel_rfl) (svB_ok rfl) rfl (fun β S w hS hs hw hG => have hb := hG.1; have h := hG.2; ⟨_, (by kernel_rfl), vGeneralA_c (ht.to hw) hS (blk_one hb) (blk_trisP hb h) hl hm⟩) ?_
    exact s_ret (.tuple #[.bool (tst (GenQ l)), .int .i64 (checkT l)]) ⟨env_ok, hS, noLent⟩ (by kernel_rfl) rfl (by kernel_rfl) (fun β => (by kernel_rfl)) (fun S w hs hw hG => ⟨by rw [if_neg (by omega)], hw⟩)
end Go.Proofs.YtpheooheinfbgaaGreatDoor
end
section
set_option linter.unusedVariables false
set_option linter.unusedSimpArgs false
namespace Go.Proofs.YtpheooheinfbgaaGreatDoor
open Go Go.RowKit
set_option maxRecDepth 100000 in
theorem vlined_c {S : Nat → Prop} {w : World} {vp vq vr : Value} {p q r : T3} {m : Nat} (hS : Up S w) (hp : TripV S w vp p) (hq : TripV S w vq q) (hr : TripV S w vr r) (hm : tl p m) (hn : tl q m) (hk : tl r m) (hmm : 3 * (2 * (m + m) + 1 + m + 1) + 1 ≤ 3344)
    (h1 : ¬ T3.Same p q) (h2 : ¬ T3.Same p r) (h3 : ¬ T3.Same q r) (h4 : T3.Flat p q r) :
    Gives Tryz.prog 64 [vp, vq, vr] w fun v' w' => v' = .tuple #[] ∧ Ext w w' := by
  refine t_gives (E := env) (S0 := S) (G := ((triG vp (p)).and ((triG vq (q)).and (triG vr (r))))) (l := [.one (.ag 9 vp), .one (.ag 9 vq), .one (.ag 9 vr)]) Tryz.func64 rfl rfl rfl ⟨hp.ok, hq.ok, hr.ok, trivial⟩ rfl ⟨hp, hq, hr⟩ ?_
  refine s_K (.one (.tp (T3.Same p q))) ⟨env_ok, hS, noLent⟩ (by kernel_rfl) (by kernel_rfl) (svB_ok rfl) rfl (fun β S w hS hs hw hG => have hp := hG.1; have hq := hG.2.1; ⟨_, (by kernel_rfl), vsame_c hS hp hq hm hn (by omega)⟩) ?_
  refine s_slot_no (p := T3.Same p q) 9 ⟨env_ok, hS, noLent⟩ (by kernel_rfl) (by kernel_rfl) (h1) ?_
  refine s_K (.one (.tp (T3.Same p r))) ⟨env_ok, hS, noLent⟩ (by kernel_rfl) (by kernel_rfl) (svB_ok rfl) rfl (fun β S w hS hs hw hG => have hp := hG.1; have hr := hG.2.2; ⟨_, (by kernel_rfl), vsame_c hS hp hr hm hk (by omega)⟩) ?_
  refine s_slot_no (p := T3.Same p r) 14 ⟨env_ok, hS, noLent⟩ (by kernel_rfl) (by kernel_rfl) (h2) ?_
  refine s_K (.one (.tp (T3.Same q r))) ⟨env_ok, hS, noLent⟩ (by kernel_rfl) (by kernel_rfl) (svB_ok rfl) rfl (fun β S w hS hs hw hG => have hq := hG.2.1; have hr := hG.2.2; ⟨_, (by kernel_rfl), vsame_c hS hq hr hn hk (by omega)⟩) ?_
  refine s_slot_no (p := T3.Same q r) 19 ⟨env_ok, hS, noLent⟩ (by kernel_rfl) (by kernel_rfl) (h3) ?_
  refine s_K (.one (.tp (T3.Flat p q r))) ⟨env_ok, hS, noLent⟩ (by kernel_rfl) (by kernel_rfl) (svB_ok rfl) rfl (fun β S w hS hs hw hG => have hp := hG.1; have hq := hG.2.1; have hr := hG.2.2; ⟨_, (by kernel_rfl), vflat_c hS hp hq hr hm hn hk hmm⟩) ?_
  refine s_no (p := ¬ T3.Flat p q r) ⟨env_ok, hS, noLent⟩ (by kernel_rfl) (by kernel_rfl) (by kernel_rfl) (fun h => h h4) ?_
  exact s_ret (.tuple #[]) ⟨env_ok, hS, noLent⟩ (by kernel_rfl) rfl (by kernel_rfl) (fun β => (by kernel_rfl)) (fun S w hs hw hG => ⟨rfl, hw⟩)
end Go.Proofs.YtpheooheinfbgaaGreatDoor
end
section
set_option linter.unusedVariables false
set_option linter.unusedSimpArgs false
namespace Go.Proofs.YtpheooheinfbgaaGreatDoor
open Go Go.RowKit
theorem bqG_ok {v : Value} {q : Rat} {S : Nat → Prop} {w : World} (h : (bG (fun x => qG x q) true v).p S w) : (pr (.ag 4 (tupN v 0)) (.bb true)).Ok 0 ∧ (pr (.ag 4 (tupN v 0)) (.bb true)).den (fun _ => 0) = v := ⟨ok_pr h.2.ok trivial, h.1.symm⟩
theorem QV.lies {S : Nat → Prop} {w : World} {v : Value} {q : Rat} (h : QV S w v q) : Lies true 4 v := by
  obtain ⟨m, b, rfl, _⟩ := h
  exact lies_agg [_, _, _, _]
abbrev qF (x : Value) (q : Rat) : Gh := qG x q
abbrev qsG (v : Value) (l : List Rat) : Gh := seqG true 4 qF v l
theorem getD_at {l : List Rat} {j : Nat} (h : j < l.length) : l[j]? = some (l.getD j 0) := by rw [List.getD_eq_getElem?_getD, List.getElem?_eq_getElem h]; rfl
theorem sign_z {q : Rat} : q.num.sign = 0 ↔ q = 0 := by rw [Int.sign_eq_zero_iff_zero]; exact Rat.num_eq_zero
set_option maxRecDepth 100000 in
theorem rfirst_c {S : Nat → Prop} {w : World} {v : Value} {l : List Rat} {p : Nat} (hS : Up S w) (h : SeqV true 4 qF S w v l) (hp : fpos Not0 l 0 = (p : Int)) (hpl : p < l.length) (hp0 : Not0 (l.getD p 0)) :
    Gives Tryz.prog 32 [v] w fun v' w' => Ext w w' ∧ (bG (fun x => qG x (l.getD p 0)) true v').p S w' := by
  have hmx := h.len_le
  unfold maxLen at hmx
  refine t_gives (E := env) (S0 := S) (G := (qsG v l)) (l := [.one (.sl v l.length)]) Tryz.func32 rfl rfl rfl ⟨h.sl, trivial⟩ rfl h ?_
  refine s_loop (ι := Nat) [(3, 20)] (fun j => [(4, .one (.int .i64 (j : Int)))]) (fun _ => []) (fun j => (qsG v l)) (fun j => j ≤ p ∧ fpos Not0 (l.drop j) j = (p : Int)) (fun j => p - j) (0) ⟨env_ok, hS, noLent⟩ (by kernel_rfl) (by kernel_rfl) (fun β => (by kernel_rfl)) (fun β => (by kernel_rfl)) (by kernel_rfl) (⟨Nat.zero_le _, hp⟩) (fun S w hw hG => ⟨ov_free rfl, fun p hp => by cases hp⟩) (fun S w hw hG => hG) (fun hso j hj => ?_)
  have hlt' : j < l.length := by omega
  have hx0 := getD_at hlt'
  obtain ⟨d1, d2⟩ := fpos_drop (p := Not0) hlt'
  refine s_yes (p := (j : Int) < (l.length : Int)) ⟨env_ok, hS, noLent⟩ (by kernel_rfl) (by kernel_rfl) (by kernel_rfl) (by omega) ?_
  refine s_go ⟨env_ok, hS, noLent⟩ (by kernel_rfl) (t_at v l.length (j : Int) 30 4 (fun u0 => atG true 4 (fun x0 => qG x0 ((l.getD j 0))) u0) (by kernel_rfl) ⟨env_ok, hS, noLent⟩ (fun β S w hM hw hG => have h := hG; h.el rfl rfl hx0) ?_)
  intro u_1
  refine s_go ⟨env_ok, hS, noLent⟩ (by kernel_rfl) (t_of u_1 30 4 true (fun x0 => .one (.ag 4 x0)) (fun x0 => qG x0 ((l.getD j 0))) (by kernel_rfl) ⟨env_ok, hS, noLent⟩ (fun S w hw hG => hG.1) (fun _ _ _ h => ⟨h.ok, rfl⟩) ?_)
  intro x
  refine s_K (.one (.int .i64 (l.getD j 0).num.sign)) ⟨env_ok, hS, noLent⟩ (by kernel_rfl) (by kernel_rfl) (svB_ok rfl) rfl (fun β S w hS hs hw hG => have hx := hG.1; ⟨_, (by kernel_rfl), zsgn_c hx⟩) ?_
  refine s_if (p := ¬ (l.getD j 0).num.sign = 0) ⟨env_ok, hS, noLent⟩ (by kernel_rfl) (by kernel_rfl) (by kernel_rfl) (fun hs => ?_) (fun hs => ?_)
  · have hn : Not0 (l.getD j 0) := fun e => hs (sign_z.2 e)
    have e : j = p := by have := d1 hn; rw [hj.2] at this; omega
    subst e
    refine s_go ⟨env_ok, hS, noLent⟩ (by kernel_rfl) (t_at v l.length (j : Int) 30 4 (fun u0 => atG true 4 (fun x0 => qG x0 ((l.getD j 0))) u0) (by kernel_rfl) ⟨env_ok, hS, noLent⟩ (fun β S w hM hw hG => have h := hG.2.2; h.el rfl rfl hx0) ?_)
    intro u_2
    refine s_go ⟨env_ok, hS, noLent⟩ (by kernel_rfl) (t_of u_2 30 4 true (fun x0 => .one (.ag 4 x0)) (fun x0 => qG x0 ((l.getD j 0))) (by kernel_rfl) ⟨env_ok, hS, noLent⟩ (fun S w hw hG => hG.1) (fun _ _ _ h => ⟨h.ok, rfl⟩) ?_)
    intro y
    refine s_out ⟨env_ok, hS, noLent⟩ (by kernel_rfl) (by kernel_rfl) ?_
    exact s_ret (.tuple #[y, .bool true]) ⟨env_ok, hS, noLent⟩ (by kernel_rfl) rfl (by kernel_rfl) (fun β => (by kernel_rfl)) (fun S w hs hw hG => have hy := hG.1; ⟨hw, rfl, hy.mono fun k _ hk => hs k hk⟩)
  · have hn : ¬ Not0 (l.getD j 0) := fun e => e (sign_z.1 (Classical.not_not.1 hs))
    have e : ¬ j = p := fun e => hn (by rw [e]; exact hp0)
    refine s_vc (ps := [InR .i64 ((j : Int) + 1)]) ⟨env_ok, hS, noLent⟩ (by kernel_rfl) (by simp only [AllT, InR, and_true]; omega) ?_
    exact s_again (j + 1) ⟨env_ok, hS, noLent⟩ hso (by kernel_rfl) (by kernel_rfl) (fun β => (by kernel_rfl)) (fun β => (by kernel_rfl)) (by kernel_rfl) (⟨by omega, by rw [← d2 hn]; exact hj.2⟩) (by omega) (fun S w hw hG => ⟨ov_free rfl, fun p hp => by cases hp⟩) (fun S w hw hG => hG.2.2)
def zeroQ : Value := .agg #[.bool false, .slice none 0 0, .bool false, .slice none 0 0]
set_option maxRecDepth 100000 in
theorem rfirst_n {S : Nat → Prop} {w : World} {v : Value} {l : List Rat} (hS : Up S w) (h : SeqV true 4 qF S w v l) (hn : NoneL l) :
    Gives Tryz.prog 32 [v] w fun v' w' => v' = .tuple #[zeroQ, .bool false] ∧ Ext w w' := by
  have hmx := h.len_le
  unfold maxLen at hmx
  refine t_gives (E := env) (S0 := S) (G := (qsG v l)) (l := [.one (.sl v l.length)]) Tryz.func32 rfl rfl rfl ⟨h.sl, trivial⟩ rfl h ?_
  refine s_loop (ι := Nat) [(3, 20)] (fun j => [(4, .one (.int .i64 (j : Int)))]) (fun _ => []) (fun j => (qsG v l)) (fun j => j ≤ l.length) (fun j => l.length - j) (0) ⟨env_ok, hS, noLent⟩ (by kernel_rfl) (by kernel_rfl) (fun β => (by kernel_rfl)) (fun β => (by kernel_rfl)) (by kernel_rfl) (Nat.zero_le _) (fun S w hw hG => ⟨ov_free rfl, fun p hp => by cases hp⟩) (fun S w hw hG => hG) (fun hso j hj => ?_)
  refine s_if (p := (j : Int) < (l.length : Int)) ⟨env_ok, hS, noLent⟩ (by kernel_rfl) (by kernel_rfl) (by kernel_rfl) (fun hlt => ?_) (fun hlt => ?_)
  · have hlt' : j < l.length := by omega
    have hx0 := getD_at hlt'
    refine s_go ⟨env_ok, hS, noLent⟩ (by kernel_rfl) (t_at v l.length (j : Int) 30 4 (fun u0 => atG true 4 (fun x0 => qG x0 ((l.getD j 0))) u0) (by kernel_rfl) ⟨env_ok, hS, noLent⟩ (fun β S w hM hw hG => have h := hG; h.el rfl rfl hx0) ?_)
    intro u_1
    refine s_go ⟨env_ok, hS, noLent⟩ (by kernel_rfl) (t_of u_1 30 4 true (fun x0 => .one (.ag 4 x0)) (fun x0 => qG x0 ((l.getD j 0))) (by kernel_rfl) ⟨env_ok, hS, noLent⟩ (fun S w hw hG => hG.1) (fun _ _ _ h => ⟨h.ok, rfl⟩) ?_)
    intro x
    refine s_K (.one (.int .i64 (l.getD j 0).num.sign)) ⟨env_ok, hS, noLent⟩ (by kernel_rfl) (by kernel_rfl) (svB_ok rfl) rfl (fun β S w hS hs hw hG => have hx := hG.1; ⟨_, (by kernel_rfl), zsgn_c hx⟩) ?_
    refine s_no (p := ¬ (l.getD j 0).num.sign = 0) ⟨env_ok, hS, noLent⟩ (by kernel_rfl) (by kernel_rfl) (by kernel_rfl) (fun e => hn ⟨l.getD j 0, List.mem_of_getElem? hx0, fun g => e (sign_z.2 g)⟩) ?_
    refine s_vc (ps := [InR .i64 ((j : Int) + 1)]) ⟨env_ok, hS, noLent⟩ (by kernel_rfl) (by simp only [AllT, InR, and_true]; omega) ?_
    exact s_again (j + 1) ⟨env_ok, hS, noLent⟩ hso (by kernel_rfl) (by kernel_rfl) (fun β => (by kernel_rfl)) (fun β => (by kernel_rfl)) (by kernel_rfl) (by omega) (by omega) (fun S w hw hG => ⟨ov_free rfl, fun p hp => by cases hp⟩) (fun S w hw hG => hG.2.2)
  · refine s_out ⟨env_ok, hS, noLent⟩ (by kernel_rfl) (by kernel_rfl) ?_
    exact s_ret (.tuple #[zeroQ, .bool false]) ⟨env_ok, hS, noLent⟩ (by kernel_rfl) rfl (by kernel_rfl) (fun β => (by kernel_rfl)) (fun S w hs hw hG => ⟨rfl, hw⟩)
abbrev nzG (v : Value) (n : Nat) : Gh := ⟨fun S w => NatV S 3 .i64 w v n, fun h k => h.keep k, fun h k => h.mono k⟩
set_option maxRecDepth 100000 in
theorem rdigits_c {S : Nat → Prop} {w : World} {v : Value} {q : Rat} (hS : Up S w) (h : QV S w v q) (hl : rl q 1000000) :
    Gives Tryz.prog 61 [v, .int .i64 40] w fun v' w' => v' = .bool (tst (LongR q)) ∧ Ext w w' := by
  obtain ⟨m, b, rfl, hm, hb⟩ := h
  refine t_gives (E := env) (S0 := S) (G := ((nzG m q.num.natAbs).and (nzG b q.den))) (l := [.agg [.tp (q.num < 0), .val m, .tp ((q.den : Int) < 0), .val b], .one (.lit .i64 40)]) Tryz.func61 rfl rfl rfl ⟨aggOk ⟨trivial, hm.one, trivial, hb.one, trivial⟩, trivial, trivial⟩ rfl ⟨hm, hb⟩ ?_
  refine s_K (.one (.int .i64 (Lib.nDigits q.num.natAbs : Nat))) ⟨env_ok, hS, noLent⟩ (by kernel_rfl) (by kernel_rfl) (svB_ok rfl) rfl (fun β S w hS hs hw hG => have hm := hG.1; ⟨_, (by kernel_rfl), zlen_c hm (Nat.le_trans hl.1 (by decide))⟩) ?_
  refine s_slot (p := (40 : Int) < ((Lib.nDigits q.num.natAbs : Nat) : Int)) 11 ⟨env_ok, hS, noLent⟩ (by kernel_rfl) (by kernel_rfl) (fun h4 => ?_) (fun h4 => ?_)
  · exact s_ret (.bool true) ⟨env_ok, hS, noLent⟩ (by kernel_rfl) rfl (by kernel_rfl) (fun β => (by kernel_rfl)) (fun S w hs hw hG => ⟨by rw [tst_true (show LongR q from .inl (by omega))], hw⟩)
  · refine s_K (.one (.int .i64 (Lib.nDigits q.den : Nat))) ⟨env_ok, hS, noLent⟩ (by kernel_rfl) (by kernel_rfl) (svB_ok rfl) rfl (fun β S w hS hs hw hG => have hb := hG.2; ⟨_, (by kernel_rfl), zlen_c hb (Nat.le_trans (show dl q.den ≤ 1000000 from hl.2) (by decide))⟩) ?_
    exact s_ret (.bool (tst ((40 : Int) < ((Lib.nDigits q.den : Nat) : Int)))) ⟨env_ok, hS, noLent⟩ (by kernel_rfl) rfl (by kernel_rfl) (fun β => (by kernel_rfl)) (fun S w hs hw hG => ⟨by rw [show LongR q = ((40 : Int) < ((Lib.nDigits q.den : Nat) : Int)) from propext ⟨fun h => by rcases h with h | h <;> omega, fun h => .inr (by omega)⟩], hw⟩)
set_option maxRecDepth 100000 in
theorem rlong_c {S : Nat → Prop} {w : World} {v : Value} {l : List Rat} (hS : Up S w) (h : SeqV true 4 qF S w v l) (hl : ∀ x ∈ l, rl x 1000000) :
    Gives Tryz.prog 33 [v] w fun v' w' => v' = .bool (tst (LongL l)) ∧ Ext w w' := by
  have hmx := h.len_le
  unfold maxLen at hmx
  refine t_gives (E := env) (S0 := S) (G := (qsG v l)) (l := [.one (.sl v l.length)]) Tryz.func33 rfl rfl rfl ⟨h.sl, trivial⟩ rfl h ?_
  refine s_loop (ι := Nat) [(2, 14)] (fun j => [(3, .one (.int .i64 (j : Int)))]) (fun _ => []) (fun j => (qsG v l)) (fun j => j ≤ l.length ∧ ∀ i, i < j → ¬ LongR (l.getD i 0)) (fun j => l.length - j) (0) ⟨env_ok, hS, noLent⟩ (by kernel_rfl) (by kernel_rfl) (fun β => (by kernel_rfl)) (fun β => (by kernel_rfl)) (by kernel_rfl) (⟨Nat.zero_le _, fun _ h => absurd h (Nat.not_lt_zero _)⟩) (fun S w hw hG => ⟨ov_free rfl, fun p hp => by cases hp⟩) (fun S w hw hG => hG) (fun hso j hj => ?_)
  refine s_if (p := (j : Int) < (l.length : Int)) ⟨env_ok, hS, noLent⟩ (by kernel_rfl) (by kernel_rfl) (by kernel_rfl) (fun hlt => ?_) (fun hlt => ?_)
  · have hlt' : j < l.length := by omega
    have hx0 := getD_at hlt'
    have hm := List.mem_of_getElem? hx0
    refine s_go ⟨env_ok, hS, noLent⟩ (by kernel_rfl) (t_at v l.length (j : Int) 30 4 (fun u0 => atG true 4 (fun x0 => qG x0 ((l.getD j 0))) u0) (by kernel_rfl) ⟨env_ok, hS, noLent⟩ (fun β S w hM hw hG => have h := hG; h.el rfl rfl hx0) ?_)
    intro u_1
    refine s_go ⟨env_ok, hS, noLent⟩ (by kernel_rfl) (t_of u_1 30 4 true (fun x0 => .one (.ag 4 x0)) (fun x0 => qG x0 ((l.getD j 0))) (by kernel_rfl) ⟨env_ok, hS, noLent⟩ (fun S w hw hG => hG.1) (fun _ _ _ h => ⟨h.ok, rfl⟩) ?_)
    intro x
    refine s_K (.one (.tp (LongR (l.getD j 0)))) ⟨env_ok, hS, noLent⟩ (by kernel_rfl) (by kernel_rfl) (svB_ok rfl) rfl (fun β S w hS hs hw hG => have hx := hG.1; ⟨_, (by kernel_rfl), rdigits_c hS hx (hl _ hm)⟩) ?_
    refine s_if (p := LongR (l.getD j 0)) ⟨env_ok, hS, noLent⟩ (by kernel_rfl) (by kernel_rfl) (by kernel_rfl) (fun hlr => ?_) (fun hlr => ?_)
    · refine s_out ⟨env_ok, hS, noLent⟩ (by kernel_rfl) (by kernel_rfl) ?_
      exact s_ret (.bool true) ⟨env_ok, hS, noLent⟩ (by kernel_rfl) rfl (by kernel_rfl) (fun β => (by kernel_rfl)) (fun S w hs hw hG => ⟨by rw [tst_true (show LongL l from ⟨_, hm, hlr⟩)], hw⟩)
    · refine s_vc (ps := [InR .i64 ((j : Int) + 1)]) ⟨env_ok, hS, noLent⟩ (by kernel_rfl) (by simp only [AllT, InR, and_true]; omega) ?_
      exact s_again (j + 1) ⟨env_ok, hS, noLent⟩ hso (by kernel_rfl) (by kernel_rfl) (fun β => (by kernel_rfl)) (fun β => (by kernel_rfl)) (by kernel_rfl) (⟨by omega, fun i hi => (Nat.lt_or_ge i j).elim (fun h => hj.2 i h) fun h => (by have e : i = j := (by omega); rw [e]; exact hlr)⟩) (by omega) (fun S w hw hG => ⟨ov_free rfl, fun p hp => by cases hp⟩) (fun S w hw hG => hG.2.2)
  · refine s_out ⟨env_ok, hS, noLent⟩ (by kernel_rfl) (by kernel_rfl) ?_
    exact s_ret (.bool false) ⟨env_ok, hS, noLent⟩ (by kernel_rfl) rfl (by kernel_rfl) (fun β => (by kernel_rfl)) (fun S w hs hw hG => ⟨by rw [tst_false fun g : LongL l => (let ⟨x, hx, hr⟩ := g; (by obtain ⟨i, hi, rfl⟩ := List.mem_iff_getElem.1 hx; exact hj.2 i (by omega) (by rw [List.getD_eq_getElem?_getD, List.getElem?_eq_getElem hi]; exact hr)))], hw⟩)
end Go.Proofs.YtpheooheinfbgaaGreatDoor
end
section
set_option linter.unusedVariables false
set_option linter.unusedSimpArgs false
namespace Go.Proofs.YtpheooheinfbgaaGreatDoor
open Go Go.RowKit
theorem tri4_cells {a b c : Value} : (tri4 a b c).cells.toList = catV [a, b, c] := by
  simp [tri4, SV.den, cellsL, Ch.cells, Value.cells, catV]
theorem QTripV.els {S : Nat → Prop} {w : World} {v : Value} {t : T3} (h : QTripV S w v t) : ∃ vs, v.cells.toList = catV vs ∧ ElsV true 4 qF S w vs t.list := by
  obtain ⟨a, b, c, rfl, h1, h2, h3⟩ := h
  refine ⟨[a, b, c], tri4_cells, rfl, fun x hx => ?_, fun i q x hq hx => ?_⟩
  · simp only [List.mem_cons, List.not_mem_nil, or_false] at hx
    rcases hx with rfl | rfl | rfl
    · exact h1.lies
    · exact h2.lies
    · exact h3.lies
  · match i with
    | 0 => simp [T3.list] at hq hx; subst hq hx; exact h1
    | 1 => simp [T3.list] at hq hx; subst hq hx; exact h2
    | 2 => simp [T3.list] at hq hx; subst hq hx; exact h3
    | i + 3 => simp [T3.list] at hq
theorem at_seq {α : Type} {g : Bool} {s : Nat} {F : Value → α → Gh} {S : Nat → Prop} {w : World} {vs : List Value} {l : List α} {u : Value} (h : ElsV g s F S w vs l) (hu : At S w u (catV vs)) (hm : l.length ≤ maxLen) :
    ∃ b k, u = .pointer (some ⟨b, k, none⟩) ∧ SeqV g s F S w (.slice (some ⟨b, k, none⟩) l.length l.length) l := by
  obtain ⟨b, o, arr, T, fr, h1, h2, h3, h4, h5⟩ := hu
  have hl := catV_len h.lies
  rw [h.len] at hl
  rw [hl] at h4 h5
  exact ⟨b, o, h1, ⟨T, vs, h.len, h.lies, ⟨hl, .inr ⟨b, o, l.length, arr, fr, rfl, Nat.le_refl _, hm, h2, h3, h4, h5⟩⟩, h.el⟩⟩
theorem qtri_win {S : Nat → Prop} {w : World} {u : Value} {t : T3} (h : (atG true 12 (fun x => qtriG x t) u).p S w) : ∃ b k, u = .pointer (some ⟨b, k, none⟩) ∧ (qsG (.slice (some ⟨b, k, none⟩) 3 3) t.list).p S w := by
  obtain ⟨x, _, h2, h3⟩ := h
  obtain ⟨vs, e1, e2⟩ := h3.els
  rw [e1] at h2
  exact at_seq e2 h2 (show 3 ≤ maxLen by decide)
abbrev qtriF (x : Value) (t : T3) : Gh := qtriG x t
abbrev qtrisG (v : Value) (l : List T3) : Gh := seqG true 12 qtriF v l
theorem check_drop {l : List T3} {j : Nat} (h : j < l.length) : (badE (l.getD j ⟨0, 0, 0⟩) = 0 → checkT (l.drop j) = checkT (l.drop (j + 1))) ∧ (¬ badE (l.getD j ⟨0, 0, 0⟩) = 0 → checkT (l.drop j) = badE (l.getD j ⟨0, 0, 0⟩)) := by
  have e : l.drop j = l.getD j ⟨0, 0, 0⟩ :: l.drop (j + 1) := by
    rw [List.drop_eq_getElem_cons h, List.getD_eq_getElem?_getD, List.getElem?_eq_getElem h]
    rfl
  rw [e]
  exact ⟨fun h => by conv => lhs; unfold checkT; rw [if_pos h], fun h => by conv => lhs; unfold checkT; rw [if_neg h]⟩
set_option maxRecDepth 100000 in
set_option maxHeartbeats 1000000 in
theorem rCheck_c {S : Nat → Prop} {w : World} {v : Value} {l : List T3} (hS : Up S w) (h : SeqV true 12 qtriF S w v l) (hl : ∀ t ∈ l, tl t 1000000) :
    Gives Tryz.prog 9 [v] w fun v' w' => v' = .int .i64 (checkT l) ∧ Ext w w' := by
  have hmx := h.len_le
  unfold maxLen at hmx
  refine t_gives (E := env) (S0 := S) (G := (qtrisG v l)) (l := [.one (.sl v l.length)]) Tryz.func9 rfl rfl rfl ⟨h.sl, trivial⟩ rfl h ?_
  refine s_loop (ι := Nat) [(2, 26)] (fun j => [(3, .one (.int .i64 (j : Int)))]) (fun _ => []) (fun j => (qtrisG v l)) (fun j => j ≤ l.length ∧ checkT (l.drop j) = checkT l) (fun j => l.length - j) (0) ⟨env_ok, hS, noLent⟩ (by kernel_rfl) (by kernel_rfl) (fun β => (by kernel_rfl)) (fun β => (by kernel_rfl)) (by kernel_rfl) (⟨Nat.zero_le _, rfl⟩) (fun S w hw hG => ⟨ov_free rfl, fun p hp => by cases hp⟩) (fun S w hw hG => hG) (fun hso j hj => ?_)
  refine s_if (p := (j : Int) < (l.length : Int)) ⟨env_ok, hS, noLent⟩ (by kernel_rfl) (by kernel_rfl) (by kernel_rfl) (fun hlt => ?_) (fun hlt => ?_)
  · have hlt' : j < l.length := by omega
    have hx0 := T3.getD_at hlt'
    have hm := List.mem_of_getElem? hx0
    obtain ⟨d1, d2⟩ := check_drop hlt'
    refine s_go ⟨env_ok, hS, noLent⟩ (by kernel_rfl) (t_at v l.length (j : Int) 32 12 (fun u0 => atG true 12 (fun x0 => qtriG x0 ((l.getD j ⟨0, 0, 0⟩))) u0) (by kernel_rfl) ⟨env_ok, hS, noLent⟩ (fun β S w hM hw hG => have h := hG; h.el rfl rfl hx0) ?_)
    intro u
    refine s_go ⟨env_ok, hS, noLent⟩ (by kernel_rfl) (t_winA u 3 (fun x0 => qsG x0 (T3.list (l.getD j ⟨0, 0, 0⟩))) (by kernel_rfl) ⟨env_ok, hS, noLent⟩ (fun β S w hM hw hG => have ha := hG.1; qtri_win ha) ?_)
    intro v1
    by_cases hn : NoneL (T3.list (l.getD j ⟨0, 0, 0⟩))
    · have hb : badE (l.getD j ⟨0, 0, 0⟩) = 60 := by unfold badE; rw [if_pos hn]
      refine s_K (.tup [(true, [.bb false, .sl (.slice none 0 0) 0, .bb false, .sl (.slice none 0 0) 0]), (false, [.bb false])]) ⟨env_ok, hS, noLent⟩ (by kernel_rfl) (by kernel_rfl) (svB_ok rfl) rfl (fun β S w hS hs hw hG => have hs1 := hG.1; ⟨_, (by kernel_rfl), rfirst_n hS hs1 hn⟩) ?_
      refine s_out ⟨env_ok, hS, noLent⟩ (by kernel_rfl) (by kernel_rfl) ?_
      exact s_ret (.int .i64 60) ⟨env_ok, hS, noLent⟩ (by kernel_rfl) rfl (by kernel_rfl) (fun β => (by kernel_rfl)) (fun S w hs hw hG => ⟨by rw [← hj.2, d2 (by rw [hb]; decide), hb], hw⟩)
    · obtain ⟨p, hp, hpl, hp0⟩ := fpos_hit (fpos_some.1 (Classical.not_not.1 hn) : 0 ≤ fpos Not0 (T3.list (l.getD j ⟨0, 0, 0⟩)) 0)
      rw [Nat.zero_add] at hp
      refine s_1 (fun x0 => pr (.ag 4 (tupN x0 0)) (.bb true)) (fun x0 => bG (fun x1 => qG x1 (((T3.list (l.getD j ⟨0, 0, 0⟩)).getD p 0))) true x0) ⟨env_ok, hS, noLent⟩ (by kernel_rfl) (by kernel_rfl) (fun _ _ _ h => bqG_ok h) (fun β S w hS hs hw hG => have hs1 := hG.1; ⟨_, (by kernel_rfl), rfirst_c hS hs1 hp hpl hp0⟩) ?_
      intro y
      refine s_go ⟨env_ok, hS, noLent⟩ (by kernel_rfl) (t_at v l.length (j : Int) 32 12 (fun u0 => atG true 12 (fun x0 => qtriG x0 ((l.getD j ⟨0, 0, 0⟩))) u0) (by kernel_rfl) ⟨env_ok, hS, noLent⟩ (fun β S w hM hw hG => have h := hG.2.2.2; h.el rfl rfl hx0) ?_)
      intro u2
      refine s_go ⟨env_ok, hS, noLent⟩ (by kernel_rfl) (t_winA u2 3 (fun x0 => qsG x0 (T3.list (l.getD j ⟨0, 0, 0⟩))) (by kernel_rfl) ⟨env_ok, hS, noLent⟩ (fun β S w hM hw hG => have ha2 := hG.1; qtri_win ha2) ?_)
      intro v2
      refine s_K (.one (.tp (LongL (T3.list (l.getD j ⟨0, 0, 0⟩))))) ⟨env_ok, hS, noLent⟩ (by kernel_rfl) (by kernel_rfl) (svB_ok rfl) rfl (fun β S w hS hs hw hG => have hs2 := hG.1; ⟨_, (by kernel_rfl), rlong_c hS hs2 (rl_list (hl _ hm))⟩) ?_
      refine s_if (p := LongL (T3.list (l.getD j ⟨0, 0, 0⟩))) ⟨env_ok, hS, noLent⟩ (by kernel_rfl) (by kernel_rfl) (by kernel_rfl) (fun hlo => ?_) (fun hlo => ?_)
      · have hb : badE (l.getD j ⟨0, 0, 0⟩) = 11 := by unfold badE; rw [if_neg hn, if_pos hlo]
        refine s_out ⟨env_ok, hS, noLent⟩ (by kernel_rfl) (by kernel_rfl) ?_
        exact s_ret (.int .i64 11) ⟨env_ok, hS, noLent⟩ (by kernel_rfl) rfl (by kernel_rfl) (fun β => (by kernel_rfl)) (fun S w hs hw hG => ⟨by rw [← hj.2, d2 (by rw [hb]; decide), hb], hw⟩)
      · have hb : badE (l.getD j ⟨0, 0, 0⟩) = 0 := by unfold badE; rw [if_neg hn, if_neg hlo]
        refine s_vc (ps := [InR .i64 ((j : Int) + 1)]) ⟨env_ok, hS, noLent⟩ (by kernel_rfl) (by simp only [AllT, InR, and_true]; omega) ?_
        exact s_again (j + 1) ⟨env_ok, hS, noLent⟩ hso (by kernel_rfl) (by kernel_rfl) (fun β => (by kernel_rfl)) (fun β => (by kernel_rfl)) (by kernel_rfl) (⟨by omega, by rw [← d1 hb]; exact hj.2⟩) (by omega) (fun S w hw hG => ⟨ov_free rfl, fun p hp => by cases hp⟩) (fun S w hw hG => hG.2.2.2.2.2)
  · refine s_out ⟨env_ok, hS, noLent⟩ (by kernel_rfl) (by kernel_rfl) ?_
    exact s_ret (.int .i64 0) ⟨env_ok, hS, noLent⟩ (by kernel_rfl) rfl (by kernel_rfl) (fun β => (by kernel_rfl)) (fun S w hs hw hG => ⟨by rw [← hj.2, List.drop_of_length_le (by omega)]; rfl, hw⟩)
end Go.Proofs.YtpheooheinfbgaaGreatDoor
end
section
set_option linter.unusedVariables false
set_option linter.unusedSimpArgs false
namespace Go.Proofs.YtpheooheinfbgaaGreatDoor
open Go Go.RowKit
theorem QV.okc {S : Nat → Prop} {w : World} {v : Value} {q : Rat} {m : Nat} (h : QV S w v q) : (Ch.ag 4 v).Ok m := h.ok
theorem mkRat_one (a : Int) : mkRat (a * (1 : Int).sign) (1 : Int).natAbs = (a : Rat) := by
  rw [show (1 : Int).sign = 1 from rfl, Int.mul_one, show (1 : Int).natAbs = 1 from rfl]
  rw [Rat.mkRat_one]
theorem zint_q {S : Nat → Prop} {w : World} {a : Int} (hS : Up S w) (h0 : -9223372036854775808 ≤ a) (h1 : a ≤ 9223372036854775807) :
    Gives Tryz.prog 23 [.int .i64 a, .int .i64 1] w fun v' w' => Ext w w' ∧ QV S w' v' (a : Rat) := by
  have h := zfrac_c (b := 1) hS h0 h1 (by decide) (by decide) (by decide) (dl_le (k := 3) (by omega)) (dl_le (k := 3) (by decide))
  rwa [mkRat_one] at h
theorem zq_0 {S : Nat → Prop} {w : World} (hS : Up S w) : Gives Tryz.prog 23 [.int .i64 0, .int .i64 1] w fun v' w' => Ext w w' ∧ QV S w' v' (0 : Rat) := zint_q (a := 0) hS (by decide) (by decide)
theorem rl_z (n : Nat) : rl (0 : Rat) (n + 1) := ⟨Nat.le_trans (dl_le (k := 0) (show 0 < 1000000000 ^ 0 by decide)) (Nat.zero_le _), Nat.le_trans (dl_le (k := 1) (show 1 < 1000000000 ^ 1 by decide)) (by omega)⟩
theorem dot0 (p q : T3) : 0 + p.x * q.x + p.y * q.y + p.z * q.z = p.dot q := by unfold T3.dot; grind
set_option maxRecDepth 100000 in
set_option maxHeartbeats 1000000 in
theorem rdot_c {S : Nat → Prop} {w : World} {vp vq : Value} {p q : T3} {m n : Nat} (hS : Up S w) (hp : QTripV S w vp p) (hq : QTripV S w vq q) (hm : tl p m) (hn : tl q n) (hmn : m + n ≤ 1000000) :
    Gives Tryz.prog 44 [vp, vq] w fun v' w' => Ext w w' ∧ QV S w' v' (p.dot q) := by
  obtain ⟨a1, b1, c1, rfl, ha1, hb1, hc1⟩ := hp
  obtain ⟨a2, b2, c2, rfl, ha2, hb2, hc2⟩ := hq
  refine t_gives (E := env) (S0 := S) (G := ((qG a1 p.x).and ((qG b1 p.y).and ((qG c1 p.z).and ((qG a2 q.x).and ((qG b2 q.y).and (qG c2 q.z))))))) (l := [.agg [.ag 4 a1, .ag 4 b1, .ag 4 c1], .agg [.ag 4 a2, .ag 4 b2, .ag 4 c2]]) Tryz.func44 rfl rfl rfl ⟨aggOk ⟨ha1.okc, hb1.okc, hc1.okc, trivial⟩, aggOk ⟨ha2.okc, hb2.okc, hc2.okc, trivial⟩, trivial⟩ rfl ⟨ha1, hb1, hc1, ha2, hb2, hc2⟩ ?_
  refine s_1 (fun x0 => .one (.ag 4 x0)) (fun x0 => qG x0 ((0 : Rat))) ⟨env_ok, hS, noLent⟩ (by kernel_rfl) (by kernel_rfl) (fun _ _ _ h => ⟨h.ok, rfl⟩) (fun β S w hS hs hw hG => ⟨_, (by kernel_rfl), zq_0 hS⟩) ?_
  intro z
  refine s_goU ⟨env_ok, hS, noLent⟩ (by kernel_rfl) ?_
  refine s_drawn 9 ⟨env_ok, hS, noLent⟩ (by kernel_rfl) (by kernel_rfl) (by kernel_rfl) ?_
  refine hd_run 7 (fun η => (by kernel_rfl)) ?_
  refine h_1 (fun x0 => .one (.ag 4 x0)) (fun x0 => qG x0 ((p.x * q.x))) (fun η => (by kernel_rfl)) (fun _ _ _ h => ⟨h.ok, rfl⟩) (fun β η S w hS hs hw hG hd => have ha1 := hG.2.1; have ha2 := hG.2.2.2.2.1; ⟨_, (by kernel_rfl), ztimes_c hS ha1 ha2 (rl_mono hm.1 (by omega)) (rl_mono hn.1 (by omega))⟩) ?_
  refine h_1 (fun x0 => .one (.ag 4 x0)) (fun x0 => qG x0 ((0 + p.x * q.x))) (fun η => (by kernel_rfl)) (fun _ _ _ h => ⟨h.ok, rfl⟩) (fun β η S w hS hs hw hG hd => have hz := hG.1; ⟨_, (by kernel_rfl), zplus_c hS hz (dep hd 7 (by kernel_rfl) (by kernel_rfl) : (qG (η 7) ((p.x * q.x))).p S w) (rl_mono (rl_z 1) (by decide)) (rl_mono (rl_mul hm.1 hn.1) (by omega))⟩) ?_
  refine hd_done (fun η => ((qG (η 8) ((0 + p.x * q.x))).and ((qG (η 7) ((p.x * q.x))).and ((qG z ((0 : Rat))).and ((qG a1 p.x).and ((qG b1 p.y).and ((qG c1 p.z).and ((qG a2 q.x).and ((qG b2 q.y).and (qG c2 q.z)))))))))) (by kernel_rfl) (fun η => (by kernel_rfl)) ?_
  intro η_1
  refine s_drawn 9 ⟨env_ok, hS, noLent⟩ (by kernel_rfl) (by kernel_rfl) (by kernel_rfl) ?_
  refine hd_run 7 (fun η => (by kernel_rfl)) ?_
  refine h_1 (fun x0 => .one (.ag 4 x0)) (fun x0 => qG x0 ((p.y * q.y))) (fun η => (by kernel_rfl)) (fun _ _ _ h => ⟨h.ok, rfl⟩) (fun β η S w hS hs hw hG hd => have hb1 := hG.2.2.2.2.1; have hb2 := hG.2.2.2.2.2.2.2.1; ⟨_, (by kernel_rfl), ztimes_c hS hb1 hb2 (rl_mono hm.2.1 (by omega)) (rl_mono hn.2.1 (by omega))⟩) ?_
  refine h_1 (fun x0 => .one (.ag 4 x0)) (fun x0 => qG x0 ((0 + p.x * q.x + p.y * q.y))) (fun η => (by kernel_rfl)) (fun _ _ _ h => ⟨h.ok, rfl⟩) (fun β η S w hS hs hw hG hd => have xs := hG.1; ⟨_, (by kernel_rfl), zplus_c hS xs (dep hd 7 (by kernel_rfl) (by kernel_rfl) : (qG (η 7) ((p.y * q.y))).p S w) (rl_mono (rl_add (rl_z 1) (rl_mul hm.1 hn.1)) (by omega)) (rl_mono (rl_mul hm.2.1 hn.2.1) (by omega))⟩) ?_
  refine hd_done (fun η => ((qG (η 8) ((0 + p.x * q.x + p.y * q.y))).and ((qG (η 7) ((p.y * q.y))).and ((qG (η_1 8) ((0 + p.x * q.x))).and ((qG (η_1 7) ((p.x * q.x))).and ((qG z ((0 : Rat))).and ((qG a1 p.x).and ((qG b1 p.y).and ((qG c1 p.z).and ((qG a2 q.x).and ((qG b2 q.y).and (qG c2 q.z)))))))))))) (by kernel_rfl) (fun η => (by kernel_rfl)) ?_
  intro η_2
  refine s_drawn 9 ⟨env_ok, hS, noLent⟩ (by kernel_rfl) (by kernel_rfl) (by kernel_rfl) ?_
  refine hd_run 7 (fun η => (by kernel_rfl)) ?_
  refine h_1 (fun x0 => .one (.ag 4 x0)) (fun x0 => qG x0 ((p.z * q.z))) (fun η => (by kernel_rfl)) (fun _ _ _ h => ⟨h.ok, rfl⟩) (fun β η S w hS hs hw hG hd => have hc1 := hG.2.2.2.2.2.2.2.1; have hc2 := hG.2.2.2.2.2.2.2.2.2.2; ⟨_, (by kernel_rfl), ztimes_c hS hc1 hc2 (rl_mono hm.2.2 (by omega)) (rl_mono hn.2.2 (by omega))⟩) ?_
  refine h_1 (fun x0 => .one (.ag 4 x0)) (fun x0 => qG x0 ((0 + p.x * q.x + p.y * q.y + p.z * q.z))) (fun η => (by kernel_rfl)) (fun _ _ _ h => ⟨h.ok, rfl⟩) (fun β η S w hS hs hw hG hd => have ys := hG.1; ⟨_, (by kernel_rfl), zplus_c hS ys (dep hd 7 (by kernel_rfl) (by kernel_rfl) : (qG (η 7) ((p.z * q.z))).p S w) (rl_mono (rl_add (rl_add (rl_z 1) (rl_mul hm.1 hn.1)) (rl_mul hm.2.1 hn.2.1)) (by omega)) (rl_mono (rl_mul hm.2.2 hn.2.2) (by omega))⟩) ?_
  refine hd_done (fun η => ((qG (η 8) ((0 + p.x * q.x + p.y * q.y + p.z * q.z))).and ((qG (η 7) ((p.z * q.z))).and ((qG (η_2 8) ((0 + p.x * q.x + p.y * q.y))).and ((qG (η_2 7) ((p.y * q.y))).and ((qG (η_1 8) ((0 + p.x * q.x))).and ((qG (η_1 7) ((p.x * q.x))).and ((qG z ((0 : Rat))).and ((qG a1 p.x).and ((qG b1 p.y).and ((qG c1 p.z).and ((qG a2 q.x).and ((qG b2 q.y).and (qG c2 q.z)))))))))))))) (by kernel_rfl) (fun η => (by kernel_rfl)) ?_
  intro η_3
  exact s_ret ((η_3 8)) ⟨env_ok, hS, noLent⟩ (by kernel_rfl) rfl (by kernel_rfl) (fun β => (by kernel_rfl)) (fun S w hs hw hG => have zs := hG.1; ⟨hw, by rw [← dot0]; exact zs.mono fun k _ hk => hs k hk⟩)
set_option maxRecDepth 100000 in
set_option maxHeartbeats 1000000 in
theorem rcross_c {S : Nat → Prop} {w : World} {vp vq : Value} {p q : T3} {m n : Nat} (hS : Up S w) (hp : QTripV S w vp p) (hq : QTripV S w vq q) (hm : tl p m) (hn : tl q n) (hmn : m + n ≤ 1000000) :
    Gives Tryz.prog 18 [vp, vq] w fun v' w' => Ext w w' ∧ QTripV S w' v' (p.cross q) := by
  obtain ⟨a1, b1, c1, rfl, ha1, hb1, hc1⟩ := hp
  obtain ⟨a2, b2, c2, rfl, ha2, hb2, hc2⟩ := hq
  refine t_gives (E := env) (S0 := S) (G := ((qG a1 p.x).and ((qG b1 p.y).and ((qG c1 p.z).and ((qG a2 q.x).and ((qG b2 q.y).and (qG c2 q.z))))))) (l := [.agg [.ag 4 a1, .ag 4 b1, .ag 4 c1], .agg [.ag 4 a2, .ag 4 b2, .ag 4 c2]]) Tryz.func18 rfl rfl rfl ⟨aggOk ⟨ha1.okc, hb1.okc, hc1.okc, trivial⟩, aggOk ⟨ha2.okc, hb2.okc, hc2.okc, trivial⟩, trivial⟩ rfl ⟨ha1, hb1, hc1, ha2, hb2, hc2⟩ ?_
  refine s_goU ⟨env_ok, hS, noLent⟩ (by kernel_rfl) ?_
  refine s_drawn 17 ⟨env_ok, hS, noLent⟩ (by kernel_rfl) (by kernel_rfl) (by kernel_rfl) ?_
  refine hd_run 7 (fun η => (by kernel_rfl)) ?_
  refine h_1 (fun x0 => .one (.ag 4 x0)) (fun x0 => qG x0 ((p.y * q.z))) (fun η => (by kernel_rfl)) (fun _ _ _ h => ⟨h.ok, rfl⟩) (fun β η S w hS hs hw hG hd => have hb1 := hG.2.1; have hc2 := hG.2.2.2.2.2; ⟨_, (by kernel_rfl), ztimes_c hS hb1 hc2 (rl_mono hm.2.1 (by omega)) (rl_mono hn.2.2 (by omega))⟩) ?_
  refine hd_run 6 (fun η => (by kernel_rfl)) ?_
  refine h_1 (fun x0 => .one (.ag 4 x0)) (fun x0 => qG x0 ((p.z * q.y))) (fun η => (by kernel_rfl)) (fun _ _ _ h => ⟨h.ok, rfl⟩) (fun β η S w hS hs hw hG hd => have hc1 := hG.2.2.1; have hb2 := hG.2.2.2.2.1; ⟨_, (by kernel_rfl), ztimes_c hS hc1 hb2 (rl_mono hm.2.2 (by omega)) (rl_mono hn.2.1 (by omega))⟩) ?_
  refine h_1 (fun x0 => .one (.ag 4 x0)) (fun x0 => qG x0 ((p.y * q.z - p.z * q.y))) (fun η => (by kernel_rfl)) (fun _ _ _ h => ⟨h.ok, rfl⟩) (fun β η S w hS hs hw hG hd => ⟨_, (by kernel_rfl), zminus_c hS (dep hd 7 (by kernel_rfl) (by kernel_rfl) : (qG (η 7) ((p.y * q.z))).p S w) (dep hd 14 (by kernel_rfl) (by kernel_rfl) : (qG (η 14) ((p.z * q.y))).p S w) (rl_mono (rl_mul hm.2.1 hn.2.2) (by omega)) (rl_mono (rl_mul hm.2.2 hn.2.1) (by omega))⟩) ?_
  refine hd_run 1 (fun η => (by kernel_rfl)) ?_
  refine hd_done (fun η => ((qG (η 15) ((p.y * q.z - p.z * q.y))).and ((qG (η 14) ((p.z * q.y))).and ((qG (η 7) ((p.y * q.z))).and ((qG a1 p.x).and ((qG b1 p.y).and ((qG c1 p.z).and ((qG a2 q.x).and ((qG b2 q.y).and (qG c2 q.z)))))))))) (by kernel_rfl) (fun η => (by kernel_rfl)) ?_
  intro η_1
  refine s_drawn 17 ⟨env_ok, hS, noLent⟩ (by kernel_rfl) (by kernel_rfl) (by kernel_rfl) ?_
  refine hd_run 7 (fun η => (by kernel_rfl)) ?_
  refine h_1 (fun x0 => .one (.ag 4 x0)) (fun x0 => qG x0 ((p.z * q.x))) (fun η => (by kernel_rfl)) (fun _ _ _ h => ⟨h.ok, rfl⟩) (fun β η S w hS hs hw hG hd => have hc1 := hG.2.2.2.2.2.1; have ha2 := hG.2.2.2.2.2.2.1; ⟨_, (by kernel_rfl), ztimes_c hS hc1 ha2 (rl_mono hm.2.2 (by omega)) (rl_mono hn.1 (by omega))⟩) ?_
  refine hd_run 6 (fun η => (by kernel_rfl)) ?_
  refine h_1 (fun x0 => .one (.ag 4 x0)) (fun x0 => qG x0 ((p.x * q.z))) (fun η => (by kernel_rfl)) (fun _ _ _ h => ⟨h.ok, rfl⟩) (fun β η S w hS hs hw hG hd => have ha1 := hG.2.2.2.1; have hc2 := hG.2.2.2.2.2.2.2.2; ⟨_, (by kernel_rfl), ztimes_c hS ha1 hc2 (rl_mono hm.1 (by omega)) (rl_mono hn.2.2 (by omega))⟩) ?_
  refine h_1 (fun x0 => .one (.ag 4 x0)) (fun x0 => qG x0 ((p.z * q.x - p.x * q.z))) (fun η => (by kernel_rfl)) (fun _ _ _ h => ⟨h.ok, rfl⟩) (fun β η S w hS hs hw hG hd => ⟨_, (by kernel_rfl), zminus_c hS (dep hd 7 (by kernel_rfl) (by kernel_rfl) : (qG (η 7) ((p.z * q.x))).p S w) (dep hd 14 (by kernel_rfl) (by kernel_rfl) : (qG (η 14) ((p.x * q.z))).p S w) (rl_mono (rl_mul hm.2.2 hn.1) (by omega)) (rl_mono (rl_mul hm.1 hn.2.2) (by omega))⟩) ?_
  refine hd_run 1 (fun η => (by kernel_rfl)) ?_
  refine hd_done (fun η => ((qG (η 15) ((p.z * q.x - p.x * q.z))).and ((qG (η 14) ((p.x * q.z))).and ((qG (η 7) ((p.z * q.x))).and ((qG (η_1 15) ((p.y * q.z - p.z * q.y))).and ((qG (η_1 14) ((p.z * q.y))).and ((qG (η_1 7) ((p.y * q.z))).and ((qG a1 p.x).and ((qG b1 p.y).and ((qG c1 p.z).and ((qG a2 q.x).and ((qG b2 q.y).and (qG c2 q.z))))))))))))) (by kernel_rfl) (fun η => (by kernel_rfl)) ?_
  intro η_2
  refine s_drawn 17 ⟨env_ok, hS, noLent⟩ (by kernel_rfl) (by kernel_rfl) (by kernel_rfl) ?_
  refine hd_run 7 (fun η => (by kernel_rfl)) ?_
  refine h_1 (fun x0 => .one (.ag 4 x0)) (fun x0 => qG x0 ((p.x * q.y))) (fun η => (by kernel_rfl)) (fun _ _ _ h => ⟨h.ok, rfl⟩) (fun β η S w hS hs hw hG hd => have ha1 := hG.2.2.2.2.2.2.1; have hb2 := hG.2.2.2.2.2.2.2.2.2.2.1; ⟨_, (by kernel_rfl), ztimes_c hS ha1 hb2 (rl_mono hm.1 (by omega)) (rl_mono hn.2.1 (by omega))⟩) ?_
  refine hd_run 6 (fun η => (by kernel_rfl)) ?_
  refine h_1 (fun x0 => .one (.ag 4 x0)) (fun x0 => qG x0 ((p.y * q.x))) (fun η => (by kernel_rfl)) (fun _ _ _ h => ⟨h.ok, rfl⟩) (fun β η S w hS hs hw hG hd => have hb1 := hG.2.2.2.2.2.2.2.1; have ha2 := hG.2.2.2.2.2.2.2.2.2.1; ⟨_, (by kernel_rfl), ztimes_c hS hb1 ha2 (rl_mono hm.2.1 (by omega)) (rl_mono hn.1 (by omega))⟩) ?_
  refine h_1 (fun x0 => .one (.ag 4 x0)) (fun x0 => qG x0 ((p.x * q.y - p.y * q.x))) (fun η => (by kernel_rfl)) (fun _ _ _ h => ⟨h.ok, rfl⟩) (fun β η S w hS hs hw hG hd => ⟨_, (by kernel_rfl), zminus_c hS (dep hd 7 (by kernel_rfl) (by kernel_rfl) : (qG (η 7) ((p.x * q.y))).p S w) (dep hd 14 (by kernel_rfl) (by kernel_rfl) : (qG (η 14) ((p.y * q.x))).p S w) (rl_mono (rl_mul hm.1 hn.2.1) (by omega)) (rl_mono (rl_mul hm.2.1 hn.1) (by omega))⟩) ?_
  refine hd_run 1 (fun η => (by kernel_rfl)) ?_
  refine hd_done (fun η => ((qG (η 15) ((p.x * q.y - p.y * q.x))).and ((qG (η 14) ((p.y * q.x))).and ((qG (η 7) ((p.x * q.y))).and ((qG (η_2 15) ((p.z * q.x - p.x * q.z))).and ((qG (η_2 14) ((p.x * q.z))).and ((qG (η_2 7) ((p.z * q.x))).and ((qG (η_1 15) ((p.y * q.z - p.z * q.y))).and ((qG (η_1 14) ((p.z * q.y))).and ((qG (η_1 7) ((p.y * q.z))).and ((qG a1 p.x).and ((qG b1 p.y).and ((qG c1 p.z).and ((qG a2 q.x).and ((qG b2 q.y).and (qG c2 q.z)))))))))))))))) (by kernel_rfl) (fun η => (by kernel_rfl)) ?_
  intro η_3
  exact s_ret (tri4 (η_1 15) (η_2 15) (η_3 15)) ⟨env_ok, hS, noLent⟩ (by kernel_rfl) rfl (by kernel_rfl) (fun β => (by kernel_rfl)) (fun S w hs hw hG => have hz := hG.1; have hy := hG.2.2.2.1; have hx := hG.2.2.2.2.2.2.1; ⟨hw, _, _, _, rfl, hx.mono fun k _ hk => hs k hk, hy.mono fun k _ hk => hs k hk, hz.mono fun k _ hk => hs k hk⟩)
set_option maxRecDepth 100000 in
theorem ron_c {S : Nat → Prop} {w : World} {vp vq : Value} {p q : T3} {m n : Nat} (hS : Up S w) (hp : QTripV S w vp p) (hq : QTripV S w vq q) (hm : tl p m) (hn : tl q n) (hmn : m + n ≤ 1000000) :
    Gives Tryz.prog 14 [vp, vq] w fun v' w' => v' = .bool (tst (p.dot q = 0)) ∧ Ext w w' := by
  refine t_gives (E := env) (S0 := S) (G := ((qtriG vp (p)).and (qtriG vq (q)))) (l := [.one (.ag 12 vp), .one (.ag 12 vq)]) Tryz.func14 rfl rfl rfl ⟨hp.ok, hq.ok, trivial⟩ rfl ⟨hp, hq⟩ ?_
  refine s_1 (fun x0 => .one (.ag 4 x0)) (fun x0 => qG x0 ((p.dot q))) ⟨env_ok, hS, noLent⟩ (by kernel_rfl) (by kernel_rfl) (fun _ _ _ h => ⟨h.ok, rfl⟩) (fun β S w hS hs hw hG => have hp := hG.1; have hq := hG.2; ⟨_, (by kernel_rfl), rdot_c hS hp hq hm hn hmn⟩) ?_
  intro d
  refine s_K (.one (.int .i64 (p.dot q).num.sign)) ⟨env_ok, hS, noLent⟩ (by kernel_rfl) (by kernel_rfl) (svB_ok rfl) rfl (fun β S w hS hs hw hG => have hd := hG.1; ⟨_, (by kernel_rfl), zsgn_c hd⟩) ?_
  exact s_ret (.bool (tst ((p.dot q).num.sign = 0))) ⟨env_ok, hS, noLent⟩ (by kernel_rfl) rfl (by kernel_rfl) (fun β => (by kernel_rfl)) (fun S w hs hw hG => ⟨by rw [sign_zero], hw⟩)
set_option maxRecDepth 100000 in
theorem rcollinear_c {S : Nat → Prop} {w : World} {vp vq vr : Value} {p q r : T3} {m : Nat} (hS : Up S w) (hp : QTripV S w vp p) (hq : QTripV S w vq q) (hr : QTripV S w vr r) (hm : tl p m) (hn : tl q m) (hk : tl r m) (hmm : m ≤ 100000) :
    Gives Tryz.prog 34 [vp, vq, vr] w fun v' w' => v' = .bool (tst (T3.Flat p q r)) ∧ Ext w w' := by
  refine t_gives (E := env) (S0 := S) (G := ((qtriG vp (p)).and ((qtriG vq (q)).and (qtriG vr (r))))) (l := [.one (.ag 12 vp), .one (.ag 12 vq), .one (.ag 12 vr)]) Tryz.func34 rfl rfl rfl ⟨hp.ok, hq.ok, hr.ok, trivial⟩ rfl ⟨hp, hq, hr⟩ ?_
  refine s_drawn 7 ⟨env_ok, hS, noLent⟩ (by kernel_rfl) (by kernel_rfl) (by kernel_rfl) ?_
  refine hd_run 3 (fun η => (by kernel_rfl)) ?_
  refine h_1 (fun x0 => .one (.ag 12 x0)) (fun x0 => qtriG x0 ((q.cross r))) (fun η => (by kernel_rfl)) (fun _ _ _ h => ⟨h.ok, rfl⟩) (fun β η S w hS hs hw hG hd => have hq := hG.2.1; have hr := hG.2.2; ⟨_, (by kernel_rfl), rcross_c hS hq hr hn hk (by omega)⟩) ?_
  refine h_1 (fun x0 => .one (.ag 4 x0)) (fun x0 => qG x0 ((p.dot (q.cross r)))) (fun η => (by kernel_rfl)) (fun _ _ _ h => ⟨h.ok, rfl⟩) (fun β η S w hS hs hw hG hd => have hp := hG.1; ⟨_, (by kernel_rfl), rdot_c hS hp (dep hd 3 (by kernel_rfl) (by kernel_rfl) : (qtriG (η 3) ((q.cross r))).p S w) hm (tl_cross hn hk) (by omega)⟩) ?_
  refine h_K (.one (.int .i64 (p.dot (q.cross r)).num.sign)) (fun η => (by kernel_rfl)) (svB_ok rfl) rfl (fun β η S w hS hs hw hG hd => ⟨_, (by kernel_rfl), zsgn_c (dep hd 4 (by kernel_rfl) (by kernel_rfl) : (qG (η 4) ((p.dot (q.cross r)))).p S w)⟩) ?_
  refine hd_run 1 (fun η => (by kernel_rfl)) ?_
  refine hd_done (fun η => ((Gh.nil).and ((qG (η 4) ((p.dot (q.cross r)))).and ((qtriG (η 3) ((q.cross r))).and ((qtriG vp (p)).and ((qtriG vq (q)).and (qtriG vr (r)))))))) (by kernel_rfl) (fun η => (by kernel_rfl)) ?_
  intro η_1
  exact s_ret (.bool (tst ((p.dot (q.cross r)).num.sign = 0))) ⟨env_ok, hS, noLent⟩ (by kernel_rfl) rfl (by kernel_rfl) (fun β => (by kernel_rfl)) (fun S w hs hw hG => ⟨by rw [sign_zero, T3.flat_iff]; rfl, hw⟩)
theorem qtri_row {S : Nat → Prop} {w : World} {v : Value} {l : List T3} (h : SeqV true 12 qtriF S w v l) : ∃ S' T' cs, Row S' T' 12 w v l.length cs := let ⟨T, vs, _, _, hr, _⟩ := h.row; ⟨S, T, _, hr⟩
theorem qtri_el {S : Nat → Prop} {w : World} {v u : Value} {l : List T3} {i : Nat} (h : SeqV true 12 qtriF S w v l) (hi : i < l.length) (hu : u = .pointer (some (adr v (Int.toNat (i : Int) * 12)))) : ∃ S' x, Lies true 12 x ∧ At S' w u x.cells.toList ∧ (qtriG x (T3.at l i)).p S w := by
  subst hu
  obtain ⟨x, h1, h2, h3⟩ := h.at (T3.at_get hi)
  exact ⟨S, x, h1, h2, h3⟩
set_option maxRecDepth 100000 in
set_option maxHeartbeats 1000000 in
theorem rgeneral_c {S : Nat → Prop} {w : World} {v : Value} {l : List T3} {m : Nat} (hS : Up S w) (h : SeqV true 12 qtriF S w v l) (hl : ∀ t ∈ l, tl t m) (hm : m ≤ 100000) :
    Gives Tryz.prog 10 [v] w fun v' w' => v' = .bool (tst (GenP l)) ∧ Ext w w' := by
  have hmx := h.len_le
  unfold maxLen at hmx
  refine t_gives (E := env) (S0 := S) (G := (qtrisG v l)) (l := [.one (.sl v l.length)]) Tryz.func10 rfl rfl rfl ⟨h.sl, trivial⟩ rfl h ?_
  refine s_loop (ι := Nat) [(2, 34)] (fun i => [(3, .one (.int .i64 (i : Int)))]) (fun _ => []) (fun i => (qtrisG v l)) (fun i => i ≤ l.length ∧ ∀ i' j' k', k' < j' → j' < i' → i' < i → ¬ T3.Flat (T3.at l i') (T3.at l j') (T3.at l k')) (fun i => l.length - i) (0) ⟨env_ok, hS, noLent⟩ (by kernel_rfl) (by kernel_rfl) (fun β => (by kernel_rfl)) (fun β => (by kernel_rfl)) (by kernel_rfl) (⟨Nat.zero_le _, fun _ _ _ _ _ h => absurd h (Nat.not_lt_zero _)⟩) (fun S w hw hG => ⟨ov_free rfl, fun p hp => by cases hp⟩) (fun S w hw hG => hG) (fun hso i hi => ?_)
  refine s_if (p := (i : Int) < (l.length : Int)) ⟨env_ok, hS, noLent⟩ (by kernel_rfl) (by kernel_rfl) (by kernel_rfl) (fun hlt => ?_) (fun hlt => ?_)
  · have hi' : i < l.length := by omega
    have hso1 := hso
    refine s_loop (ι := Nat) [(2, 2), (4, 5), (12, 34)] (fun j => [(4, .one (.int .i64 (j : Int)))]) (fun _ => []) (fun j => (qtrisG v l)) (fun j => j ≤ i ∧ ∀ j' k', k' < j' → j' < j → ¬ T3.Flat (T3.at l i) (T3.at l j') (T3.at l k')) (fun j => i - j) (0) ⟨env_ok, hS, noLent⟩ (by kernel_rfl) (by kernel_rfl) (fun β => (by kernel_rfl)) (fun β => (by kernel_rfl)) (by kernel_rfl) (⟨Nat.zero_le _, fun _ _ _ h => absurd h (Nat.not_lt_zero _)⟩) (fun S w hw hG => ⟨ov_free rfl, fun p hp => by cases hp⟩) (fun S w hw hG => hG) (fun hso j hj => ?_)
    refine s_if (p := (j : Int) < (i : Int)) ⟨env_ok, hS, noLent⟩ (by kernel_rfl) (by kernel_rfl) (by kernel_rfl) (fun hlt2 => ?_) (fun hlt2 => ?_)
    · have hj' : j < l.length := by omega
      have hso2 := hso
      refine s_loop (ι := Nat) [(2, 2), (5, 5), (17, 34)] (fun k => [(5, .one (.int .i64 (k : Int)))]) (fun _ => []) (fun k => (qtrisG v l)) (fun k => k ≤ j ∧ ∀ k', k' < k → ¬ T3.Flat (T3.at l i) (T3.at l j) (T3.at l k')) (fun k => j - k) (0) ⟨env_ok, hS, noLent⟩ (by kernel_rfl) (by kernel_rfl) (fun β => (by kernel_rfl)) (fun β => (by kernel_rfl)) (by kernel_rfl) (⟨Nat.zero_le _, fun _ h => absurd h (Nat.not_lt_zero _)⟩) (fun S w hw hG => ⟨ov_free rfl, fun p hp => by cases hp⟩) (fun S w hw hG => hG) (fun hso k hk => ?_)
      refine s_if (p := (k : Int) < (j : Int)) ⟨env_ok, hS, noLent⟩ (by kernel_rfl) (by kernel_rfl) (by kernel_rfl) (fun hlt3 => ?_) (fun hlt3 => ?_)
      · have hk' : k < l.length := by omega
        refine s_drawn 12 ⟨env_ok, hS, noLent⟩ (by kernel_rfl) (by kernel_rfl) (by kernel_rfl) ?_
        refine hd_run 2 (fun η => (by kernel_rfl)) ?_
        refine hd_atM (fun η => v) l.length (i : Int) 32 12 (fun u0 => pureG (u0 = .pointer (some (adr v (Int.toNat (i : Int) * 12))))) (fun η => (by kernel_rfl)) (fun η => (by kernel_rfl)) ⟨env_ok, hS, noLent⟩ (fun β η S w hM hw hG hd => have h := hG; ⟨by omega, by omega, qtri_row h, rfl⟩) ?_
        refine hd_ofM (fun η => η 2) 32 12 true (fun x0 => .one (.ag 12 x0)) (fun x0 => qtriG x0 ((T3.at l i))) (fun η => (by kernel_rfl)) (fun η => (by kernel_rfl)) ⟨env_ok, hS, noLent⟩ (fun _ _ _ h => ⟨h.ok, rfl⟩) (fun β η S w hM hw hG hd => have h := hG; qtri_el h hi' (dep hd 2 (by kernel_rfl) (by kernel_rfl) : (pureG ((η 2) = .pointer (some (adr v (Int.toNat (i : Int) * 12))))).p S w)) ?_
        refine hd_run 2 (fun η => (by kernel_rfl)) ?_
        refine hd_atM (fun η => v) l.length (j : Int) 32 12 (fun u0 => pureG (u0 = .pointer (some (adr v (Int.toNat (j : Int) * 12))))) (fun η => (by kernel_rfl)) (fun η => (by kernel_rfl)) ⟨env_ok, hS, noLent⟩ (fun β η S w hM hw hG hd => have h := hG; ⟨by omega, by omega, qtri_row h, rfl⟩) ?_
        refine hd_ofM (fun η => η 6) 32 12 true (fun x0 => .one (.ag 12 x0)) (fun x0 => qtriG x0 ((T3.at l j))) (fun η => (by kernel_rfl)) (fun η => (by kernel_rfl)) ⟨env_ok, hS, noLent⟩ (fun _ _ _ h => ⟨h.ok, rfl⟩) (fun β η S w hM hw hG hd => have h := hG; qtri_el h hj' (dep hd 6 (by kernel_rfl) (by kernel_rfl) : (pureG ((η 6) = .pointer (some (adr v (Int.toNat (j : Int) * 12))))).p S w)) ?_
        refine hd_run 2 (fun η => (by kernel_rfl)) ?_
        refine hd_atM (fun η => v) l.length (k : Int) 32 12 (fun u0 => pureG (u0 = .pointer (some (adr v (Int.toNat (k : Int) * 12))))) (fun η => (by kernel_rfl)) (fun η => (by kernel_rfl)) ⟨env_ok, hS, noLent⟩ (fun β η S w hM hw hG hd => have h := hG; ⟨by omega, by omega, qtri_row h, rfl⟩) ?_
        refine hd_ofM (fun η => η 10) 32 12 true (fun x0 => .one (.ag 12 x0)) (fun x0 => qtriG x0 ((T3.at l k))) (fun η => (by kernel_rfl)) (fun η => (by kernel_rfl)) ⟨env_ok, hS, noLent⟩ (fun _ _ _ h => ⟨h.ok, rfl⟩) (fun β η S w hM hw hG hd => have h := hG; qtri_el h hk' (dep hd 10 (by kernel_rfl) (by kernel_rfl) : (pureG ((η 10) = .pointer (some (adr v (Int.toNat (k : Int) * 12))))).p S w)) ?_
        refine hd_done (fun η => ((qtriG (η 11) ((T3.at l k))).and ((pureG ((η 10) = .pointer (some (adr v (Int.toNat (k : Int) * 12))))).and ((qtriG (η 7) ((T3.at l j))).and ((pureG ((η 6) = .pointer (some (adr v (Int.toNat (j : Int) * 12))))).and ((qtriG (η 3) ((T3.at l i))).and ((pureG ((η 2) = .pointer (some (adr v (Int.toNat (i : Int) * 12))))).and (qtrisG v l)))))))) (by kernel_rfl) (fun η => (by kernel_rfl)) ?_
        intro η_1
        refine s_K (.one (.tp (T3.Flat (T3.at l i) (T3.at l j) (T3.at l k)))) ⟨env_ok, hS, noLent⟩ (by kernel_rfl) (by kernel_rfl) (svB_ok rfl) rfl (fun β S w hS hs hw hG => have hz := hG.1; have hy := hG.2.2.1; have hx := hG.2.2.2.2.1; ⟨_, (by kernel_rfl), rcollinear_c hS hx hy hz (hl _ (List.mem_of_getElem? (T3.at_get hi'))) (hl _ (List.mem_of_getElem? (T3.at_get hj'))) (hl _ (List.mem_of_getElem? (T3.at_get hk'))) hm⟩) ?_
        refine s_if (p := T3.Flat (T3.at l i) (T3.at l j) (T3.at l k)) ⟨env_ok, hS, noLent⟩ (by kernel_rfl) (by kernel_rfl) (by kernel_rfl) (fun hf => ?_) (fun hf => ?_)
        · refine s_out ⟨env_ok, hS, noLent⟩ (by kernel_rfl) (by kernel_rfl) ?_
          refine s_out ⟨env_ok, hS, noLent⟩ (by kernel_rfl) (by kernel_rfl) ?_
          refine s_out ⟨env_ok, hS, noLent⟩ (by kernel_rfl) (by kernel_rfl) ?_
          exact s_ret (.bool false) ⟨env_ok, hS, noLent⟩ (by kernel_rfl) rfl (by kernel_rfl) (fun β => (by kernel_rfl)) (fun S w hs hw hG => ⟨by rw [tst_false fun g : GenP l => g i j k (by omega) (by omega) hi' hf], hw⟩)
        · refine s_vc (ps := [InR .i64 ((k : Int) + 1)]) ⟨env_ok, hS, noLent⟩ (by kernel_rfl) (by simp only [AllT, InR, and_true]; omega) ?_
          exact s_again (k + 1) ⟨env_ok, hS, noLent⟩ hso (by kernel_rfl) (by kernel_rfl) (fun β => (by kernel_rfl)) (fun β => (by kernel_rfl)) (by kernel_rfl) (⟨by omega, fun k' hk2 => (Nat.lt_or_ge k' k).elim (fun h => hk.2 k' h) fun h => (by have e : k' = k := (by omega); rw [e]; exact hf)⟩) (by omega) (fun S w hw hG => ⟨ov_free rfl, fun p hp => by cases hp⟩) (fun S w hw hG => hG.2.2.2.2.2.2)
      · refine s_out ⟨env_ok, hS, noLent⟩ (by kernel_rfl) (by kernel_rfl) ?_
        refine s_vc (ps := [InR .i64 ((j : Int) + 1)]) ⟨env_ok, hS, noLent⟩ (by kernel_rfl) (by simp only [AllT, InR, and_true]; omega) ?_
        have hso := hso2
        exact s_again (j + 1) ⟨env_ok, hS, noLent⟩ hso (by kernel_rfl) (by kernel_rfl) (fun β => (by kernel_rfl)) (fun β => (by kernel_rfl)) (by kernel_rfl) (⟨by omega, fun j' k' hk2 hj2 => (Nat.lt_or_ge j' j).elim (fun h => hj.2 j' k' hk2 h) fun h => (by have e : j' = j := (by omega); rw [e]; exact hk.2 k' (by omega))⟩) (by omega) (fun S w hw hG => ⟨ov_free rfl, fun p hp => by cases hp⟩) (fun S w hw hG => hG)
    · refine s_out ⟨env_ok, hS, noLent⟩ (by kernel_rfl) (by kernel_rfl) ?_
      refine s_vc (ps := [InR .i64 ((i : Int) + 1)]) ⟨env_ok, hS, noLent⟩ (by kernel_rfl) (by simp only [AllT, InR, and_true]; omega) ?_
      have hso := hso1
      exact s_again (i + 1) ⟨env_ok, hS, noLent⟩ hso (by kernel_rfl) (by kernel_rfl) (fun β => (by kernel_rfl)) (fun β => (by kernel_rfl)) (by kernel_rfl) (⟨by omega, fun i' j' k' hk2 hj2 hi2 => (Nat.lt_or_ge i' i).elim (fun h => hi.2 i' j' k' hk2 hj2 h) fun h => (by have e : i' = i := (by omega); rw [e]; exact hj.2 j' k' hk2 (by omega))⟩) (by omega) (fun S w hw hG => ⟨ov_free rfl, fun p hp => by cases hp⟩) (fun S w hw hG => hG)
  · refine s_out ⟨env_ok, hS, noLent⟩ (by kernel_rfl) (by kernel_rfl) ?_
    exact s_ret (.bool true) ⟨env_ok, hS, noLent⟩ (by kernel_rfl) rfl (by kernel_rfl) (fun β => (by kernel_rfl)) (fun S w hs hw hG => ⟨by rw [tst_true (show GenP l from fun i' j' k' h1 h2 h3 => hi.2 i' j' k' h1 h2 (by omega))], hw⟩)
end Go.Proofs.YtpheooheinfbgaaGreatDoor
end
section
set_option linter.unusedVariables false
set_option linter.unusedSimpArgs false
namespace Go.Proofs.YtpheooheinfbgaaGreatDoor
open Go Go.RowKit
abbrev qvG (x : Value) (a : Value × Rat) : Gh := (pureG (x = a.1)).and (qG x a.2)
abbrev qvF (x : Value) (a : Value × Rat) : Gh := qvG x a
theorem qv_getD {l : List (Value × Rat)} {j : Nat} (h : j < l.length) : l[j]? = some (l.getD j (undef, 0)) := by rw [List.getD_eq_getElem?_getD, List.getElem?_eq_getElem h]; rfl
theorem rfirst_v {S : Nat → Prop} {w : World} {v : Value} {l : List (Value × Rat)} {p : Nat} (hS : Up S w) (h : SeqV true 4 qvF S w v l) (hpl : p < l.length) (hp0 : (l.getD p (undef, 0)).2 ≠ 0) (hlow : ∀ j, j < p → (l.getD j (undef, 0)).2 = 0) :
    Gives Tryz.prog 32 [v] w fun v' w' => v' = .tuple #[(l.getD p (undef, 0)).1, .bool true] ∧ Ext w w' := by
  have hmx := h.len_le
  unfold maxLen at hmx
  refine t_gives (E := env) (S0 := S) (G := (seqG true 4 qvF v l)) (l := [.one (.sl v l.length)]) Tryz.func32 rfl rfl rfl ⟨h.sl, trivial⟩ rfl h ?_
  refine s_loop (ι := Nat) [(3, 20)] (fun j => [(4, .one (.int .i64 (j : Int)))]) (fun _ => []) (fun j => (seqG true 4 qvF v l)) (fun j => j ≤ p) (fun j => p - j) (0) ⟨env_ok, hS, noLent⟩ (by kernel_rfl) (by kernel_rfl) (fun β => (by kernel_rfl)) (fun β => (by kernel_rfl)) (by kernel_rfl) (Nat.zero_le _) (fun S w hw hG => ⟨ov_free rfl, fun p hp => by cases hp⟩) (fun S w hw hG => hG) (fun hso j hj => ?_)
  have hlt' : j < l.length := by omega
  have hx0 := qv_getD hlt'
  refine s_yes (p := (j : Int) < (l.length : Int)) ⟨env_ok, hS, noLent⟩ (by kernel_rfl) (by kernel_rfl) (by kernel_rfl) (by omega) ?_
  refine s_go ⟨env_ok, hS, noLent⟩ (by kernel_rfl) (t_at v l.length (j : Int) 30 4 (fun u0 => atG true 4 (fun x0 => qvG x0 ((l.getD j (undef, 0)))) u0) (by kernel_rfl) ⟨env_ok, hS, noLent⟩ (fun β S w hM hw hG => have h := hG; h.el rfl rfl hx0) ?_)
  intro u_1
  refine s_go ⟨env_ok, hS, noLent⟩ (by kernel_rfl) (t_of u_1 30 4 true (fun x0 => .one (.ag 4 x0)) (fun x0 => qvG x0 ((l.getD j (undef, 0)))) (by kernel_rfl) ⟨env_ok, hS, noLent⟩ (fun S w hw hG => hG.1) (fun _ _ _ h => ⟨h.2.ok, rfl⟩) ?_)
  intro x
  refine s_K (.one (.int .i64 (l.getD j (undef, 0)).2.num.sign)) ⟨env_ok, hS, noLent⟩ (by kernel_rfl) (by kernel_rfl) (svB_ok rfl) rfl (fun β S w hS hs hw hG => have hx := hG.1; ⟨_, (by kernel_rfl), zsgn_c hx.2⟩) ?_
  by_cases e : j = p
  · subst e
    refine s_yes (p := ¬ (l.getD j (undef, 0)).2.num.sign = 0) ⟨env_ok, hS, noLent⟩ (by kernel_rfl) (by kernel_rfl) (by kernel_rfl) (fun g => hp0 (sign_z.1 g)) ?_
    refine s_go ⟨env_ok, hS, noLent⟩ (by kernel_rfl) (t_at v l.length (j : Int) 30 4 (fun u0 => atG true 4 (fun x0 => qvG x0 ((l.getD j (undef, 0)))) u0) (by kernel_rfl) ⟨env_ok, hS, noLent⟩ (fun β S w hM hw hG => have h := hG.2.2; h.el rfl rfl hx0) ?_)
    intro u_2
    refine s_go ⟨env_ok, hS, noLent⟩ (by kernel_rfl) (t_of u_2 30 4 true (fun x0 => .one (.ag 4 x0)) (fun x0 => qvG x0 ((l.getD j (undef, 0)))) (by kernel_rfl) ⟨env_ok, hS, noLent⟩ (fun S w hw hG => hG.1) (fun _ _ _ h => ⟨h.2.ok, rfl⟩) ?_)
    intro y
    refine s_out ⟨env_ok, hS, noLent⟩ (by kernel_rfl) (by kernel_rfl) ?_
    exact s_ret (.tuple #[y, .bool true]) ⟨env_ok, hS, noLent⟩ (by kernel_rfl) rfl (by kernel_rfl) (fun β => (by kernel_rfl)) (fun S w hs hw hG => have hy := hG.1; ⟨by rw [hy.1], hw⟩)
  · refine s_no (p := ¬ (l.getD j (undef, 0)).2.num.sign = 0) ⟨env_ok, hS, noLent⟩ (by kernel_rfl) (by kernel_rfl) (by kernel_rfl) (fun g => g (sign_z.2 (hlow j (by omega)))) ?_
    refine s_vc (ps := [InR .i64 ((j : Int) + 1)]) ⟨env_ok, hS, noLent⟩ (by kernel_rfl) (by simp only [AllT, InR, and_true]; omega) ?_
    exact s_again (j + 1) ⟨env_ok, hS, noLent⟩ hso (by kernel_rfl) (by kernel_rfl) (fun β => (by kernel_rfl)) (fun β => (by kernel_rfl)) (by kernel_rfl) (by omega) (by omega) (fun S w hw hG => ⟨ov_free rfl, fun p hp => by cases hp⟩) (fun S w hw hG => hG.2.2)
theorem rfirst_0 {S : Nat → Prop} {w : World} {v : Value} {l : List (Value × Rat)} (hS : Up S w) (h : SeqV true 4 qvF S w v l) (h0 : ∀ j, j < l.length → (l.getD j (undef, 0)).2 = 0) :
    Gives Tryz.prog 32 [v] w fun v' w' => v' = .tuple #[zeroQ, .bool false] ∧ Ext w w' := by
  have hmx := h.len_le
  unfold maxLen at hmx
  refine t_gives (E := env) (S0 := S) (G := (seqG true 4 qvF v l)) (l := [.one (.sl v l.length)]) Tryz.func32 rfl rfl rfl ⟨h.sl, trivial⟩ rfl h ?_
  refine s_loop (ι := Nat) [(3, 20)] (fun j => [(4, .one (.int .i64 (j : Int)))]) (fun _ => []) (fun j => (seqG true 4 qvF v l)) (fun j => j ≤ l.length) (fun j => l.length - j) (0) ⟨env_ok, hS, noLent⟩ (by kernel_rfl) (by kernel_rfl) (fun β => (by kernel_rfl)) (fun β => (by kernel_rfl)) (by kernel_rfl) (Nat.zero_le _) (fun S w hw hG => ⟨ov_free rfl, fun p hp => by cases hp⟩) (fun S w hw hG => hG) (fun hso j hj => ?_)
  refine s_if (p := (j : Int) < (l.length : Int)) ⟨env_ok, hS, noLent⟩ (by kernel_rfl) (by kernel_rfl) (by kernel_rfl) (fun hlt => ?_) (fun hlt => ?_)
  · have hlt' : j < l.length := by omega
    have hx0 := qv_getD hlt'
    refine s_go ⟨env_ok, hS, noLent⟩ (by kernel_rfl) (t_at v l.length (j : Int) 30 4 (fun u0 => atG true 4 (fun x0 => qvG x0 ((l.getD j (undef, 0)))) u0) (by kernel_rfl) ⟨env_ok, hS, noLent⟩ (fun β S w hM hw hG => have h := hG; h.el rfl rfl hx0) ?_)
    intro u_1
    refine s_go ⟨env_ok, hS, noLent⟩ (by kernel_rfl) (t_of u_1 30 4 true (fun x0 => .one (.ag 4 x0)) (fun x0 => qvG x0 ((l.getD j (undef, 0)))) (by kernel_rfl) ⟨env_ok, hS, noLent⟩ (fun S w hw hG => hG.1) (fun _ _ _ h => ⟨h.2.ok, rfl⟩) ?_)
    intro x
    refine s_K (.one (.int .i64 (l.getD j (undef, 0)).2.num.sign)) ⟨env_ok, hS, noLent⟩ (by kernel_rfl) (by kernel_rfl) (svB_ok rfl) rfl (fun β S w hS hs hw hG => have hx := hG.1; ⟨_, (by kernel_rfl), zsgn_c hx.2⟩) ?_
    refine s_no (p := ¬ (l.getD j (undef, 0)).2.num.sign = 0) ⟨env_ok, hS, noLent⟩ (by kernel_rfl) (by kernel_rfl) (by kernel_rfl) (fun g => g (sign_z.2 (h0 j hlt'))) ?_
    refine s_vc (ps := [InR .i64 ((j : Int) + 1)]) ⟨env_ok, hS, noLent⟩ (by kernel_rfl) (by simp only [AllT, InR, and_true]; omega) ?_
    exact s_again (j + 1) ⟨env_ok, hS, noLent⟩ hso (by kernel_rfl) (by kernel_rfl) (fun β => (by kernel_rfl)) (fun β => (by kernel_rfl)) (by kernel_rfl) (by omega) (by omega) (fun S w hw hG => ⟨ov_free rfl, fun p hp => by cases hp⟩) (fun S w hw hG => hG.2.2)
  · refine s_out ⟨env_ok, hS, noLent⟩ (by kernel_rfl) (by kernel_rfl) ?_
    exact s_ret (.tuple #[zeroQ, .bool false]) ⟨env_ok, hS, noLent⟩ (by kernel_rfl) rfl (by kernel_rfl) (fun β => (by kernel_rfl)) (fun S w hs hw hG => ⟨rfl, hw⟩)
theorem qv3 {S : Nat → Prop} {w : World} {a b c : Value} {t : T3} (h1 : QV S w a t.x) (h2 : QV S w b t.y) (h3 : QV S w c t.z) : ElsV true 4 qvF S w [a, b, c] [(a, t.x), (b, t.y), (c, t.z)] := by
  refine ⟨rfl, fun x hx => ?_, fun i q x hq hx => ?_⟩
  · simp only [List.mem_cons, List.not_mem_nil, or_false] at hx
    rcases hx with rfl | rfl | rfl
    · exact h1.lies
    · exact h2.lies
    · exact h3.lies
  · match i with
    | 0 => simp at hq hx; subst hq hx; exact ⟨rfl, h1⟩
    | 1 => simp at hq hx; subst hq hx; exact ⟨rfl, h2⟩
    | 2 => simp at hq hx; subst hq hx; exact ⟨rfl, h3⟩
    | i + 3 => simp at hq
noncomputable def leadV (t : T3) (a b c : Value) : Value := if t.x ≠ 0 then a else if t.y ≠ 0 then b else c
theorem lead_q {S : Nat → Prop} {w : World} {a b c : Value} {t : T3} (h1 : QV S w a t.x) (h2 : QV S w b t.y) (h3 : QV S w c t.z) : QV S w (leadV t a b c) t.lead := by
  unfold leadV T3.lead
  split
  · exact h1
  · split
    · exact h2
    · exact h3
theorem rfirst3 {S : Nat → Prop} {w : World} {v a b c : Value} {t : T3} (hS : Up S w) (h : SeqV true 4 qvF S w v [(a, t.x), (b, t.y), (c, t.z)]) (hn : ¬ t.None) :
    Gives Tryz.prog 32 [v] w fun v' w' => v' = .tuple #[leadV t a b c, .bool true] ∧ Ext w w' := by
  unfold leadV
  by_cases hx : t.x = 0
  · by_cases hy : t.y = 0
    · have hz : t.z ≠ 0 := fun hz => hn ⟨hx, hy, hz⟩
      rw [if_neg (fun h => h hx), if_neg (fun h => h hy)]
      exact rfirst_v (p := 2) hS h (by simp) hz fun j hj => by
        match j, hj with
        | 0, _ => exact hx
        | 1, _ => exact hy
    · rw [if_neg (fun h => h hx), if_pos hy]
      exact rfirst_v (p := 1) hS h (by simp) hy fun j hj => by
        match j, hj with
        | 0, _ => exact hx
  · rw [if_pos hx]
    exact rfirst_v (p := 0) hS h (by simp) hx fun j hj => absurd hj (Nat.not_lt_zero _)
theorem rfirst30 {S : Nat → Prop} {w : World} {v a b c : Value} {t : T3} (hS : Up S w) (h : SeqV true 4 qvF S w v [(a, t.x), (b, t.y), (c, t.z)]) (hn : t.None) :
    Gives Tryz.prog 32 [v] w fun v' w' => v' = .tuple #[zeroQ, .bool false] ∧ Ext w w' :=
  rfirst_0 hS h fun j hj => by
    match j, hj with
    | 0, _ => exact hn.1
    | 1, _ => exact hn.2.1
    | 2, _ => exact hn.2.2
set_option maxRecDepth 100000 in
theorem rzero_c {S : Nat → Prop} {w : World} {vp : Value} {p : T3} (hS : Up S w) (hp : QTripV S w vp p) :
    Gives Tryz.prog 45 [vp] w fun v' w' => v' = .bool (tst p.None) ∧ Ext w w' := by
  obtain ⟨a, b, c, rfl, ha, hb, hc⟩ := hp
  refine t_gives (E := env) (S0 := S) (G := ((qG a p.x).and ((qG b p.y).and (qG c p.z)))) (l := [.agg [.ag 4 a, .ag 4 b, .ag 4 c]]) Tryz.func45 rfl rfl rfl ⟨aggOk ⟨ha.okc, hb.okc, hc.okc, trivial⟩, trivial⟩ rfl ⟨ha, hb, hc⟩ ?_
  by_cases hn : p.None
  · refine s_KM (.tup [(true, [.bb false, .sl (.slice none 0 0) 0, .bb false, .sl (.slice none 0 0) 0]), (false, [.bb false])]) ⟨env_ok, hS, noLent⟩ (by kernel_rfl) (by kernel_rfl) (svB_ok rfl) rfl (fun β S w hS hM hs hw hG => have ha := hG.1; have hb := hG.2.1; have hc := hG.2.2; ⟨_, (by kernel_rfl), rfirst30 (up_row hS) (blk_seq (F := qvF) (l := [(a, p.x), (b, p.y), (c, p.z)]) 0 32 [a, b, c] hM (by kernel_rfl) (qv3 ha hb hc) (show 3 ≤ maxLen by decide)) hn⟩) ?_
    exact s_ret (.bool true) ⟨env_ok, hS, noLent⟩ (by kernel_rfl) rfl (by kernel_rfl) (fun β => (by kernel_rfl)) (fun S w hs hw hG => ⟨by rw [tst_true hn], hw⟩)
  · refine s_1M (fun x0 => pr (.ag 4 (tupN x0 0)) (.bb true)) (fun x0 => bG (fun x1 => qG x1 (p.lead)) true x0) ⟨env_ok, hS, noLent⟩ (by kernel_rfl) (by kernel_rfl) (fun _ _ _ h => bqG_ok h) (fun β S w hS hM hs hw hG => have ha := hG.1; have hb := hG.2.1; have hc := hG.2.2; ⟨_, (by kernel_rfl), (rfirst3 (up_row hS) (blk_seq (F := qvF) (l := [(a, p.x), (b, p.y), (c, p.z)]) 0 32 [a, b, c] hM (by kernel_rfl) (qv3 ha hb hc) (show 3 ≤ maxLen by decide)) hn).mono fun v' w' h => ⟨h.2, by rw [h.1]; rfl, by rw [h.1]; exact (lead_q ha hb hc).to h.2⟩⟩) ?_
    intro y
    exact s_ret (.bool false) ⟨env_ok, hS, noLent⟩ (by kernel_rfl) rfl (by kernel_rfl) (fun β => (by kernel_rfl)) (fun S w hs hw hG => ⟨by rw [tst_false hn], hw⟩)
set_option maxRecDepth 100000 in
theorem rsame_c {S : Nat → Prop} {w : World} {vp vq : Value} {p q : T3} {m n : Nat} (hS : Up S w) (hp : QTripV S w vp p) (hq : QTripV S w vq q) (hm : tl p m) (hn : tl q n) (hmn : m + n ≤ 1000000) :
    Gives Tryz.prog 15 [vp, vq] w fun v' w' => v' = .bool (tst (T3.Same p q)) ∧ Ext w w' := by
  refine t_gives (E := env) (S0 := S) (G := ((qtriG vp (p)).and (qtriG vq (q)))) (l := [.one (.ag 12 vp), .one (.ag 12 vq)]) Tryz.func15 rfl rfl rfl ⟨hp.ok, hq.ok, trivial⟩ rfl ⟨hp, hq⟩ ?_
  refine s_1 (fun x0 => .one (.ag 12 x0)) (fun x0 => qtriG x0 ((p.cross q))) ⟨env_ok, hS, noLent⟩ (by kernel_rfl) (by kernel_rfl) (fun _ _ _ h => ⟨h.ok, rfl⟩) (fun β S w hS hs hw hG => have hp := hG.1; have hq := hG.2; ⟨_, (by kernel_rfl), rcross_c hS hp hq hm hn hmn⟩) ?_
  intro c
  refine s_K (.one (.tp (p.cross q).None)) ⟨env_ok, hS, noLent⟩ (by kernel_rfl) (by kernel_rfl) (svB_ok rfl) rfl (fun β S w hS hs hw hG => have hc := hG.1; ⟨_, (by kernel_rfl), rzero_c hS hc⟩) ?_
  exact s_ret (.bool (tst (p.cross q).None)) ⟨env_ok, hS, noLent⟩ (by kernel_rfl) rfl (by kernel_rfl) (fun β => (by kernel_rfl)) (fun S w hs hw hG => ⟨rfl, hw⟩)
theorem num_ne {q : Rat} (h : q ≠ 0) : q.num ≠ 0 := fun e => h (Rat.num_eq_zero.1 e)
theorem rl_lead {t : T3} {n : Nat} (h : tl t n) : rl t.lead n := by
  unfold T3.lead
  split
  · exact h.1
  · split
    · exact h.2.1
    · exact h.2.2
set_option maxRecDepth 100000 in
set_option maxHeartbeats 1000000 in
theorem rnormal_c {S : Nat → Prop} {w : World} {vp : Value} {p : T3} {m : Nat} (hS : Up S w) (hp : QTripV S w vp p) (hm : tl p m) (hmm : m ≤ 1000000) (hnn : ¬ p.None) :
    Gives Tryz.prog 47 [vp] w fun v' w' => Ext w w' ∧ QTripV S w' v' p.normal := by
  have hl0 := T3.lead_ne hnn
  obtain ⟨a, b, c, rfl, ha, hb, hc⟩ := hp
  refine t_gives (E := env) (S0 := S) (G := ((qG a p.x).and ((qG b p.y).and (qG c p.z)))) (l := [.agg [.ag 4 a, .ag 4 b, .ag 4 c]]) Tryz.func47 rfl rfl rfl ⟨aggOk ⟨ha.okc, hb.okc, hc.okc, trivial⟩, trivial⟩ rfl ⟨ha, hb, hc⟩ ?_
  refine s_1M (fun x0 => pr (.ag 4 (tupN x0 0)) (.bb true)) (fun x0 => bG (fun x1 => qG x1 (p.lead)) true x0) ⟨env_ok, hS, noLent⟩ (by kernel_rfl) (by kernel_rfl) (fun _ _ _ h => bqG_ok h) (fun β S w hS hM hs hw hG => have ha := hG.1; have hb := hG.2.1; have hc := hG.2.2; ⟨_, (by kernel_rfl), (rfirst3 (up_row hS) (blk_seq (F := qvF) (l := [(a, p.x), (b, p.y), (c, p.z)]) 0 32 [a, b, c] hM (by kernel_rfl) (qv3 ha hb hc) (show 3 ≤ maxLen by decide)) hnn).mono fun v' w' h => ⟨h.2, by rw [h.1]; rfl, by rw [h.1]; exact (lead_q ha hb hc).to h.2⟩⟩) ?_
  intro y
  refine s_goU ⟨env_ok, hS, noLent⟩ (by kernel_rfl) ?_
  refine s_drawn 7 ⟨env_ok, hS, noLent⟩ (by kernel_rfl) (by kernel_rfl) (by kernel_rfl) ?_
  refine hd_run 5 (fun η => (by kernel_rfl)) ?_
  refine h_1 (fun x0 => .one (.ag 4 x0)) (fun x0 => qG x0 ((p.x / p.lead))) (fun η => (by kernel_rfl)) (fun _ _ _ h => ⟨h.ok, rfl⟩) (fun β η S w hS hs hw hG hd => have hf := hG.1; have ha := hG.2.1; ⟨_, (by kernel_rfl), zover_c hS ha hf.2 (rl_mono hm.1 (by omega)) (rl_mono (rl_lead hm) (by omega)) (num_ne hl0)⟩) ?_
  refine hd_run 1 (fun η => (by kernel_rfl)) ?_
  refine hd_done (fun η => ((qG (η 5) ((p.x / p.lead))).and ((bG (fun x1 => qG x1 (p.lead)) true y).and ((qG a p.x).and ((qG b p.y).and (qG c p.z)))))) (by kernel_rfl) (fun η => (by kernel_rfl)) ?_
  intro η_1
  refine s_drawn 7 ⟨env_ok, hS, noLent⟩ (by kernel_rfl) (by kernel_rfl) (by kernel_rfl) ?_
  refine hd_run 5 (fun η => (by kernel_rfl)) ?_
  refine h_1 (fun x0 => .one (.ag 4 x0)) (fun x0 => qG x0 ((p.y / p.lead))) (fun η => (by kernel_rfl)) (fun _ _ _ h => ⟨h.ok, rfl⟩) (fun β η S w hS hs hw hG hd => have hf := hG.2.1; have hb := hG.2.2.2.1; ⟨_, (by kernel_rfl), zover_c hS hb hf.2 (rl_mono hm.2.1 (by omega)) (rl_mono (rl_lead hm) (by omega)) (num_ne hl0)⟩) ?_
  refine hd_run 1 (fun η => (by kernel_rfl)) ?_
  refine hd_done (fun η => ((qG (η 5) ((p.y / p.lead))).and ((qG (η_1 5) ((p.x / p.lead))).and ((bG (fun x1 => qG x1 (p.lead)) true y).and ((qG a p.x).and ((qG b p.y).and (qG c p.z))))))) (by kernel_rfl) (fun η => (by kernel_rfl)) ?_
  intro η_2
  refine s_drawn 7 ⟨env_ok, hS, noLent⟩ (by kernel_rfl) (by kernel_rfl) (by kernel_rfl) ?_
  refine hd_run 5 (fun η => (by kernel_rfl)) ?_
  refine h_1 (fun x0 => .one (.ag 4 x0)) (fun x0 => qG x0 ((p.z / p.lead))) (fun η => (by kernel_rfl)) (fun _ _ _ h => ⟨h.ok, rfl⟩) (fun β η S w hS hs hw hG hd => have hf := hG.2.2.1; have hc := hG.2.2.2.2.2; ⟨_, (by kernel_rfl), zover_c hS hc hf.2 (rl_mono hm.2.2 (by omega)) (rl_mono (rl_lead hm) (by omega)) (num_ne hl0)⟩) ?_
  refine hd_run 1 (fun η => (by kernel_rfl)) ?_
  refine hd_done (fun η => ((qG (η 5) ((p.z / p.lead))).and ((qG (η_2 5) ((p.y / p.lead))).and ((qG (η_1 5) ((p.x / p.lead))).and ((bG (fun x1 => qG x1 (p.lead)) true y).and ((qG a p.x).and ((qG b p.y).and (qG c p.z)))))))) (by kernel_rfl) (fun η => (by kernel_rfl)) ?_
  intro η_3
  exact s_ret (tri4 (η_1 5) (η_2 5) (η_3 5)) ⟨env_ok, hS, noLent⟩ (by kernel_rfl) rfl (by kernel_rfl) (fun β => (by kernel_rfl)) (fun S w hs hw hG => have hz := hG.1; have hy := hG.2.1; have hx := hG.2.2.1; ⟨hw, _, _, _, rfl, hx.mono fun k _ hk => hs k hk, hy.mono fun k _ hk => hs k hk, hz.mono fun k _ hk => hs k hk⟩)
end Go.Proofs.YtpheooheinfbgaaGreatDoor
end
section
set_option linter.unusedVariables false
set_option linter.unusedSimpArgs false
namespace Go.Proofs.YtpheooheinfbgaaGreatDoor
open Go Go.RowKit
section
variable {c : Cx} {st : St} {G : Gh} {all : List Oper} {K : List HRec → Prop} {acc : List HRec} {ops : List Oper}
noncomputable def hpS (c : Cx) (st : St) (acc : List HRec) (ops : List Oper) (η : Nat → Value) : SV := match hput c.E st.hp (frH st acc η) (opH ops) with | some (s, _) => s | none => .und
theorem hd_fact (p : Value → SV) (Δ : Value → Gh) (hc : c.Ok) (hok : ∀ η, hopOk all st acc ops η = true) (hv : ∀ η, hput c.E st.hp (frH st acc η) (opH ops) = some (hpS c st acc ops η, []))
    (h : ∀ β η S w, Up S w → Mem c.bs st.hp β w → (∀ k, S k → c.S0 k) → Keeps c.K c.w0 w → G.p S w → depsH acc (opH ops).after.toList η S w → ∃ v, (hpS c st acc ops η).den β = v ∧ v = (p v).den (fun _ => 0) ∧ (p v).Ok 0 ∧ (Δ v).p S w)
    (k : Hd c st G all K (.spec ((opH ops).dst.getD 0) p Δ :: acc) (ops.drop 1)) : Hd c st G all K acc ops := by
  refine hd_opM p Δ hok (fun β η S w F m ty hkn hup hM hS hw hG hd => ?_) k
  obtain ⟨v, h1, h2, h3, h4⟩ := h β η S w hup hM hS hw hG hd
  have hkn2 : OpsKn β (max m st.hp.length) (frH st acc η) (ev F) (opH ops).op := fun x hx s hs => by
    obtain ⟨e1, e2⟩ := hkn x hx s hs
    exact ⟨e1, e2.le (Nat.le_max_left _ _)⟩
  have he := hv η
  generalize hpS c st acc ops η = s at he h1
  unfold hput at he
  split at he <;> first | (cases he; done) | skip
  rename_i s' vc' hp
  simp only [Option.some.injEq, Prod.mk.injEq] at he
  obtain ⟨rfl, rfl⟩ := he
  have h5 := (effV_ok (P := c.P) (ty := ty) (Nat.le_max_right m st.hp.length) hc.env hM hkn2 (putOnly_eq hp).1 trivial).1
  exact ⟨v, h1 ▸ h5, h2, h3, h4⟩
end
end Go.Proofs.YtpheooheinfbgaaGreatDoor
end
section
set_option linter.unusedVariables false
set_option linter.unusedSimpArgs false
namespace Go.Proofs.YtpheooheinfbgaaGreatDoor
open Go Go.RowKit
def cel (v : Value) (o n : Nat) : Value := .agg ((v.cells.toList.drop o).take n).toArray
theorem cel_of {g : Bool} {n : Nat} {v : Value} {vs : List Value} (h : v.cells.toList = catV vs) (hl : ∀ x ∈ vs, Lies true n x) {i : Nat} {x : Value} (hx : vs[i]? = some x) : cel v (i * n) n = x := by
  unfold cel
  rw [h]
  unfold catV
  rw [flatMap_at hl hx]
  have h2 := (hl x (List.mem_of_getElem? hx)).2
  simp only [cond_true] at h2
  rw [h2]
  simp [Value.cells]
abbrev trixG (v : Value) (t : T3) : Gh := ⟨fun S w => v = (SV.agg [.ag 3 (cel v 0 3), .ag 3 (cel v 3 3), .ag 3 (cel v 6 3)]).den (fun _ => 0) ∧ RatV S w (cel v 0 3) t.x ∧ RatV S w (cel v 3 3) t.y ∧ RatV S w (cel v 6 3) t.z, fun h k => ⟨h.1, h.2.1.keep k, h.2.2.1.keep k, h.2.2.2.keep k⟩, fun h k => ⟨h.1, h.2.1.mono k, h.2.2.1.mono k, h.2.2.2.mono k⟩⟩
abbrev qtrixG (v : Value) (t : T3) : Gh := ⟨fun S w => v = (SV.agg [.ag 4 (cel v 0 4), .ag 4 (cel v 4 4), .ag 4 (cel v 8 4)]).den (fun _ => 0) ∧ QV S w (cel v 0 4) t.x ∧ QV S w (cel v 4 4) t.y ∧ QV S w (cel v 8 4) t.z, fun h k => ⟨h.1, h.2.1.keep k, h.2.2.1.keep k, h.2.2.2.keep k⟩, fun h k => ⟨h.1, h.2.1.mono k, h.2.2.1.mono k, h.2.2.2.mono k⟩⟩
section
variable {S : Nat → Prop} {w : World} {v : Value} {t : T3}
theorem trixG_ok (h : (trixG v t).p S w) : (SV.agg [.ag 3 (cel v 0 3), .ag 3 (cel v 3 3), .ag 3 (cel v 6 3)]).Ok 0 ∧ (SV.agg [.ag 3 (cel v 0 3), .ag 3 (cel v 3 3), .ag 3 (cel v 6 3)]).den (fun _ => 0) = v :=
  ⟨aggOk ⟨h.2.1.okc, h.2.2.1.okc, h.2.2.2.okc, trivial⟩, h.1.symm⟩
theorem qtrixG_ok (h : (qtrixG v t).p S w) : (SV.agg [.ag 4 (cel v 0 4), .ag 4 (cel v 4 4), .ag 4 (cel v 8 4)]).Ok 0 ∧ (SV.agg [.ag 4 (cel v 0 4), .ag 4 (cel v 4 4), .ag 4 (cel v 8 4)]).den (fun _ => 0) = v :=
  ⟨aggOk ⟨h.2.1.okc, h.2.2.1.okc, h.2.2.2.okc, trivial⟩, h.1.symm⟩
theorem trix (h : TripV S w v t) : (trixG v t).p S w := by
  obtain ⟨a, b, c, hv, h1, h2, h3⟩ := h
  have hl : ∀ x ∈ [a, b, c], Lies true 3 x := by
    intro x hx
    simp only [List.mem_cons, List.not_mem_nil, or_false] at hx
    rcases hx with rfl | rfl | rfl
    · exact h1.lies
    · exact h2.lies
    · exact h3.lies
  have hc : v.cells.toList = catV [a, b, c] := by rw [hv]; exact tri_cells h1.lies h2.lies h3.lies
  have e1 : cel v 0 3 = a := cel_of (g := true) (i := 0) hc hl rfl
  have e2 : cel v 3 3 = b := cel_of (g := true) (i := 1) hc hl rfl
  have e3 : cel v 6 3 = c := cel_of (g := true) (i := 2) hc hl rfl
  show v = _ ∧ _
  rw [e1, e2, e3]
  exact ⟨hv, h1, h2, h3⟩
theorem qtrix (h : QTripV S w v t) : (qtrixG v t).p S w := by
  obtain ⟨a, b, c, hv, h1, h2, h3⟩ := h
  have hl : ∀ x ∈ [a, b, c], Lies true 4 x := by
    intro x hx
    simp only [List.mem_cons, List.not_mem_nil, or_false] at hx
    rcases hx with rfl | rfl | rfl
    · exact h1.lies
    · exact h2.lies
    · exact h3.lies
  have hc : v.cells.toList = catV [a, b, c] := by rw [hv]; exact tri4_cells
  have e1 : cel v 0 4 = a := cel_of (g := true) (i := 0) hc hl rfl
  have e2 : cel v 4 4 = b := cel_of (g := true) (i := 1) hc hl rfl
  have e3 : cel v 8 4 = c := cel_of (g := true) (i := 2) hc hl rfl
  show v = _ ∧ _
  rw [e1, e2, e3]
  exact ⟨hv, h1, h2, h3⟩
end
section
variable {c : Cx} {o : Out} {G : Gh}
theorem t_know (Δ : Gh) (h : ∀ β S w, Mem c.bs o.st.hp β w → Keeps c.K c.w0 w → G.p S w → Δ.p S w) (hn : Run c o (Δ.and G)) : Run c o G :=
  ⟨fun β ρ w hS hw hG => hn.run β ρ w hS hw ⟨h β _ w hS.mem hw hG, hG⟩⟩
end
abbrev slG (v : Value) (n : Nat) : Gh := pureG (∃ a c, v = .slice a n c ∧ n ≤ c)
theorem QTripV.lies {S : Nat → Prop} {w : World} {v : Value} {t : T3} (h : QTripV S w v t) : Lies true 12 v := by
  obtain ⟨us, rfl, h2, _⟩ := h.ok
  have := lies_agg us
  rwa [h2] at this
theorem ElsV.snoc {α : Type} {g : Bool} {s : Nat} {F : Value → α → Gh} {S : Nat → Prop} {w : World} {vs : List Value} {l : List α} {y : Value} {a : α} (h : ElsV g s F S w vs l) (hy : Lies g s y) (hF : (F y a).p S w) : ElsV g s F S w (vs ++ [y]) (l ++ [a]) := by
  refine ⟨by simp [h.len], fun x hx => ?_, fun i b x h1 h2 => ?_⟩
  · rcases List.mem_append.1 hx with hx | hx
    · exact h.lies x hx
    · rw [List.mem_singleton.1 hx]; exact hy
  · rcases Nat.lt_trichotomy i l.length with hi | hi | hi
    · rw [List.getElem?_append_left hi] at h1
      rw [List.getElem?_append_left (by rw [h.len]; exact hi)] at h2
      exact h.el i b x h1 h2
    · rw [List.getElem?_append_right (by omega), hi, Nat.sub_self] at h1
      rw [List.getElem?_append_right (by rw [h.len]; omega), h.len, hi, Nat.sub_self] at h2
      simp at h1 h2
      subst h1 h2
      exact hF
    · rw [List.getElem?_eq_none (by simp; omega)] at h1
      cases h1
theorem els_nil {α : Type} {g : Bool} {s : Nat} {F : Value → α → Gh} {S : Nat → Prop} {w : World} : ElsV g s F S w [] ([] : List α) := ⟨rfl, fun _ h => (by cases h), fun i a x h => (by simp at h)⟩
theorem ElsV.take {α : Type} {g : Bool} {s : Nat} {F : Value → α → Gh} {S : Nat → Prop} {w : World} {vs : List Value} {l : List α} (h : ElsV g s F S w vs l) (n : Nat) : ElsV g s F S w (vs.take n) (l.take n) := by
  refine ⟨by simp [h.len], fun x hx => h.lies x (List.mem_of_mem_take hx), fun i a x h1 h2 => ?_⟩
  rw [List.getElem?_take] at h1 h2
  split at h1
  · rename_i hi
    rw [if_pos hi] at h2
    exact h.el i a x h1 h2
  · cases h1
theorem ElsV.ofRow {α : Type} {g : Bool} {s : Nat} {F : Value → α → Gh} {S : Nat → Prop} {T : TypeId} {w : World} {vs : List Value} {l : List α} {v : Value} {n : Nat} (h : ElsV g s F S w vs l) (hr : Row S T s w v n (catV vs)) (hn : n = l.length) : SeqV g s F S w v l := by
  subst hn
  exact ⟨T, vs, h.len, h.lies, hr, h.el⟩
theorem catV_snoc (vs : List Value) (y : Value) : catV vs ++ y.cells.toList = catV (vs ++ [y]) := by simp [catV]
theorem catV_take {g : Bool} {s : Nat} {vs : List Value} (h : ∀ x ∈ vs, Lies g s x) (n : Nat) : (catV vs).take (n * s) = catV (vs.take n) := by
  induction n generalizing vs with
  | zero => simp [catV]
  | succ n ih =>
    cases vs with
    | nil => simp [catV]
    | cons x r =>
      have h1 := (h x (List.mem_cons_self ..)).1
      have h2 := ih (vs := r) fun y hy => h y (List.mem_cons_of_mem _ hy)
      unfold catV at h2 ⊢
      rw [List.flatMap_cons, List.take_succ_cons, List.flatMap_cons, Nat.add_mul, Nat.one_mul, Nat.add_comm, ← h1, List.take_length_add_append, h1, h2]
theorem win_row {base : Bs} {hp : List HE} {β : Nat → Nat} {w : World} {v : Value} {s : Nat} (i : Nat) (T : TypeId) (hM : Mem base hp β w) (hb : nth hp i = some (.blk T [.ag s v])) (hk : (SV.one (.ag s v)).Ok 0) :
    ∃ S', Row S' T s w (.slice (some ⟨β i, 0, none⟩) 1 1) 1 v.cells.toList ∧ ∀ u ∈ v.cells.toList, u.oneCell' = true := by
  obtain ⟨us, rfl, h2, h3⟩ := hk
  rw [nth_eq] at hb
  have hB := (hM.blk i T _ hb).1
  rw [cells_ag] at hB
  have ho : Own 0 T s w (.slice (some ⟨β i, 0, none⟩) 1 1) 1 (Value.agg us.toArray).cells.toList := own_blk hB (Nat.zero_le _) (show 1 ≤ maxLen by decide) (by simp [Value.cells, h2])
  obtain ⟨S', hr⟩ := own_row ho
  exact ⟨S', hr, by simpa [Value.cells] using h3⟩
end Go.Proofs.YtpheooheinfbgaaGreatDoor
end
section
set_option linter.unusedVariables false
set_option linter.unusedSimpArgs false
namespace Go.Proofs.YtpheooheinfbgaaGreatDoor
open Go Go.RowKit
def sixV (a : Nat → Int) : Value := .agg #[.int .i64 (a 0), .int .i64 (a 1), .int .i64 (a 2), .int .i64 (a 3), .int .i64 (a 4), .int .i64 (a 5)]
def Six (a : Nat → Int) : Prop := ∀ i, i < 6 → -9223372036854775808 ≤ a i ∧ a i ≤ 9223372036854775807
abbrev sixF (x : Value) (a : Nat → Int) : Gh := pureG (x = sixV a ∧ Six a)
theorem sixF_ok {x : Value} {a : Nat → Int} {S : Nat → Prop} {w : World} (h : (sixF x a).p S w) : (SV.agg [.int .i64 (a 0), .int .i64 (a 1), .int .i64 (a 2), .int .i64 (a 3), .int .i64 (a 4), .int .i64 (a 5)]).Ok 0 ∧ (SV.agg [.int .i64 (a 0), .int .i64 (a 1), .int .i64 (a 2), .int .i64 (a 3), .int .i64 (a 4), .int .i64 (a 5)]).den (fun _ => 0) = x :=
  ⟨aggOk ⟨trivial, trivial, trivial, trivial, trivial, trivial, trivial⟩, h.1.symm⟩
def ArgS (S : Nat → Prop) (w : World) (v : Value) (l : List (Nat → Int)) : Prop := (∃ a c, v = .slice a l.length c ∧ l.length ≤ c) ∧ l.length ≤ maxLen ∧ (l ≠ [] → SeqV true 6 sixF S w v l)
theorem ArgS.sl {S : Nat → Prop} {w : World} {v : Value} {l : List (Nat → Int)} (h : ArgS S w v l) : (SV.one (.sl v l.length)).Ok 0 := h.1
abbrev argG (v : Value) (l : List (Nat → Int)) : Gh := ⟨fun S w => ArgS S w v l, fun h k => ⟨h.1, h.2.1, fun e => (h.2.2 e).keep k⟩, fun h k => ⟨h.1, h.2.1, fun e => (h.2.2 e).mono k⟩⟩
theorem six_of {H : Type} {enc : TypeId × Value → H} {P : Program} {w : World} {base : Nat} {spare : Nat → Bool} {held : Bool} {e f : TypeId} {fuel : Nat} {cs : List Value} {x : DataW H × List MemPlace}
    (he : P.underlying e = some (.array 6 f)) (hf : P.underlying f = some (.int .i64)) (hcf : P.cellsOf f = 1) (hce : P.cellsOf e = 6) (h : DataW.trod enc P w base spare held fuel e cs = some x) : ∃ a, cs = (sixV a).cells.toList ∧ Six a := by
  cases fuel with
  | zero => simp [DataW.trod] at h
  | succ fuel =>
    rw [DataW.trod_step] at h
    unfold DataW.trodStep at h
    rw [he] at h
    simp only at h
    split at h
    · rename_i hl
      rw [hce] at hl
      simp only [Option.map_eq_some_iff] at h
      obtain ⟨xs, hx, rfl⟩ := h
      have hel : ∀ i, i < 6 → ∃ z : Int, (cs.drop i).take 1 = [.int .i64 z] ∧ -9223372036854775808 ≤ z ∧ z ≤ 9223372036854775807 := by
        intro i hi
        have h1 := mapM_some_get hx i i (by rw [List.getElem?_range hi])
        have hxl := mapM_some_length hx
        simp at hxl
        rw [List.getElem?_eq_getElem (by omega)] at h1
        rw [hcf, Nat.mul_one] at h1
        obtain ⟨z, h2, _, h3⟩ := DataW.trod_int hf h1
        refine ⟨z, h2, ?_⟩
        simp only [Lit.wf, IntKind.min, IntKind.max, IntKind.signed, IntKind.bits, Bool.and_eq_true, decide_eq_true_eq] at h3
        refine ⟨?_, ?_⟩ <;> · have h4 := h3; simp at h4; omega
      have hall : ∀ i : Nat, ∃ z : Int, i < 6 → (cs.drop i).take 1 = [.int .i64 z] ∧ -9223372036854775808 ≤ z ∧ z ≤ 9223372036854775807 := by
        intro i
        by_cases hi : i < 6
        · obtain ⟨z, hz⟩ := hel i hi
          exact ⟨z, fun _ => hz⟩
        · exact ⟨0, fun h => absurd h hi⟩
      refine ⟨fun i => (hall i).choose, ?_, fun i hi => ((hall i).choose_spec hi).2⟩
      have hg : ∀ i, i < 6 → cs[i]? = some (.int .i64 ((hall i).choose)) := by
        intro i hi
        have h1 := ((hall i).choose_spec hi).1
        have h2 : ((cs.drop i).take 1)[0]? = cs[i]? := by simp
        exact h2.symm.trans (congrArg (fun l : List Value => l[0]?) h1)
      refine List.ext_getElem? fun i => ?_
      by_cases hi : i < 6
      · rw [hg i hi]
        match i with
        | 0 => rfl
        | 1 => rfl
        | 2 => rfl
        | 3 => rfl
        | 4 => rfl
        | 5 => rfl
        | i + 6 => omega
      · rw [List.getElem?_eq_none (by omega), List.getElem?_eq_none (by simp [sixV, Value.cells]; omega)]
    · cases h
theorem open_sixes {H : Type} {enc : TypeId × Value → H} {P : Program} {w : World} {held : Bool} {t e f : TypeId} {fuel : Nat} {cs : List Value} {x : DataW H × List MemPlace}
    (ht : P.underlying t = some (.slice e)) (he : P.underlying e = some (.array 6 f)) (hf : P.underlying f = some (.int .i64)) (hcf : P.cellsOf f = 1) (hce : P.cellsOf e = 6) (h : DataW.trod enc P w 0 (fun _ => true) held fuel t cs = some x) :
    ∃ v l, cs = [v] ∧ ArgS All w v l := by
  rcases Go.Deep.open_slice ht h with ⟨rfl, rfl⟩ | ⟨a, len, cap, m, n, D, Pl, rfl, hb, hl, hm, hmm, rfl, hx⟩
  · exact ⟨_, [], rfl, ⟨none, 0, rfl, Nat.le_refl _⟩, Nat.zero_le _, fun h => absurd rfl h⟩
  · simp only [if_true] at hmm
    subst hmm
    have hel : ∀ i : Nat, ∃ z : Nat → Int, i < m → w.cells? 0 (a.add (i * 6)) 6 = some (sixV z).cells.toList ∧ Six z := by
      intro i
      by_cases hi : i < m
      · obtain ⟨cs', h1, h2⟩ := hx i hi
        obtain ⟨z, rfl, h3⟩ := six_of he hf hcf hce h2
        rw [hce] at h1
        exact ⟨z, fun _ => ⟨h1, h3⟩⟩
      · exact ⟨fun _ => 0, fun h => absurd h hi⟩
    let Z : Nat → Nat → Int := fun i => (hel i).choose
    have hZ : ∀ i, i < m → w.cells? 0 (a.add (i * 6)) 6 = some (sixV (Z i)).cells.toList ∧ Six (Z i) := fun i hi => (hel i).choose_spec hi
    refine ⟨_, (List.range len).map Z, rfl, ⟨some a, m, by simp, by simpa using hl⟩, by simp; omega, fun hne => ?_⟩
    have hpos : 0 < len := by
      rcases Nat.eq_zero_or_pos len with h | h
      · subst h; exact absurd rfl hne
      · exact h
    have hc : ∀ i k, i < m → k < 6 → w.cell? (a.add (i * 6 + k)) = (sixV (Z i)).cells.toList[k]? := by
      intro i k hi hk
      obtain ⟨_, _, h3⟩ := World.cells?_some (hZ i hi).1
      have h4 := h3 k hk
      rwa [Go.Deep.add_add] at h4
    have h0 := hc 0 0 (by omega) (by omega)
    obtain ⟨b, off, sp⟩ := a
    have hs6 : ∀ i, (sixV (Z i)).cells.toList.length = 6 := fun i => rfl
    have hsp : sp = none := by
      cases sp with
      | none => rfl
      | some s =>
        simp [World.cell?, Addr.add] at h0
        split at h0 <;> simp [sixV, Value.cells] at h0
    subst hsp
    have hcell : ∀ j, j < m * 6 → w.cell? ⟨b, off + j, none⟩ = (sixV (Z (j / 6))).cells.toList[j % 6]? := by
      intro j hj
      have h1 := hc (j / 6) (j % 6) (Nat.div_lt_of_lt_mul (by omega)) (Nat.mod_lt _ (by decide))
      rw [show j / 6 * 6 + j % 6 = j by omega] at h1
      rw [← h1]
      congr 1
      unfold Addr.add
      split
      · rename_i e; subst e; simp
      · rfl
    have hh : ∃ arr T fr, w.heap[b]? = some (.cells arr T fr) := by
      have h1 := hcell 0 (by omega)
      unfold World.cell? at h1
      split at h1
      · rename_i c T fr hc; exact ⟨c, T, fr, hc⟩
      · simp [sixV, Value.cells] at h1
    obtain ⟨arr, T, fr, hh⟩ := hh
    have harr : ∀ j, j < m * 6 → arr[off + j]? = (sixV (Z (j / 6))).cells.toList[j % 6]? := by
      intro j hj
      have h1 := hcell j hj
      simpa [World.cell?, hh] using h1
    have hsz : off + m * 6 ≤ arr.size := by
      have h1 := harr (m * 6 - 1) (by omega)
      have h2 : (sixV (Z ((m * 6 - 1) / 6))).cells.toList[(m * 6 - 1) % 6]? ≠ none := by
        rw [List.getElem?_eq_getElem (by rw [hs6]; exact Nat.mod_lt _ (by decide))]
        simp
      rw [← h1] at h2
      rcases Nat.lt_or_ge (off + (m * 6 - 1)) arr.size with h3 | h3
      · omega
      · exact absurd (Array.getElem?_eq_none_iff.2 h3) h2
    have hcat : ∀ k, ((List.range k).map fun i => sixV (Z i)).flatMap (fun x => x.cells.toList) = (List.range (k * 6)).map fun j => (sixV (Z (j / 6))).cells.toList.getD (j % 6) undef := by
      intro k
      induction k with
      | zero => rfl
      | succ k ih =>
        rw [List.range_succ, List.map_append, List.flatMap_append, ih, Nat.add_mul, Nat.one_mul, List.range_add, List.map_append]
        congr 1
        simp only [List.map_cons, List.map_nil, List.flatMap_cons, List.flatMap_nil, List.append_nil, List.map_map]
        refine List.ext_getElem? fun j => ?_
        by_cases hj : j < 6
        · rw [List.getElem?_map, List.getElem?_range hj]
          simp only [Option.map_some, Function.comp]
          rw [show (k * 6 + j) / 6 = k by omega, show (k * 6 + j) % 6 = j by omega, List.getD_eq_getElem?_getD, List.getElem?_eq_getElem (by rw [hs6]; exact hj)]
          rfl
        · rw [List.getElem?_eq_none (by rw [hs6]; omega), List.getElem?_eq_none (by simp; omega)]
    refine ⟨T, (List.range len).map fun i => sixV (Z i), by simp, fun x hx => ?_, ⟨?_, .inr ⟨b, off, m, arr, fr, by simp, by simpa using hl, hm, trivial, hh, hsz, ?_⟩⟩, fun i z x h1 h2 => ?_⟩
    · obtain ⟨i, _, rfl⟩ := List.mem_map.1 hx
      exact ⟨rfl, rfl⟩
    · rw [hcat]; simp
    · rw [hcat]
      have hle : len * 6 ≤ m * 6 := Nat.mul_le_mul_right _ hl
      refine List.ext_getElem? fun j => ?_
      simp only [List.length_map, List.length_range]
      by_cases hj : j < len * 6
      · rw [List.getElem?_take, if_pos hj, List.getElem?_drop, List.getElem?_map, List.getElem?_range hj]
        have h1 := harr j (by omega)
        rw [Array.getElem?_toList, h1]
        simp only [Option.map_some]
        rw [List.getD_eq_getElem?_getD, List.getElem?_eq_getElem (by rw [hs6]; exact Nat.mod_lt _ (by decide))]
        rfl
      · rw [List.getElem?_eq_none (by simp; omega), List.getElem?_eq_none (by simp; omega)]
    · have hi : i < len := by
        have := (List.getElem?_eq_some_iff.1 h1).1
        simpa using this
      rw [List.getElem?_map, List.getElem?_range hi] at h1 h2
      simp only [Option.map_some, Option.some.injEq] at h1 h2
      subst h1 h2
      exact ⟨rfl, (hZ i (by omega)).2⟩
end Go.Proofs.YtpheooheinfbgaaGreatDoor
end
section
set_option linter.unusedVariables false
set_option linter.unusedSimpArgs false
namespace Go.Proofs.YtpheooheinfbgaaGreatDoor
open Go Go.RowKit
theorem rstr_short {q : Rat} {k : Nat} (h : rl q k) : (rstr q).length ≤ 18 * k + 5 := by
  unfold rstr
  have h1 := itoa_length q.num
  have h2 := nDigits_le_dl q.num.natAbs (show dl q.num.natAbs ≤ k from h.1)
  have h3 := nDigits_le_dl q.den (show dl q.den ≤ k from h.2)
  rw [List.length_append]
  split
  · simp; omega
  · rw [List.length_cons, Lib.decDigits_length]; omega
theorem rparse_w {S : Nat → Prop} {w : World} {s : List UInt8} {q : Rat} (hS : Up S w) (hl : s.length ≤ 14000) (h : s = rstr q) : Gives Tryz.prog 58 [strV s] w fun v w' => Ext w w' ∧ (tryG v q 0).p S w' :=
  (rparse_c hS (by omega)).mono fun v w' ⟨k, hp⟩ => ⟨k, by
    rcases hp with ⟨h1, _⟩ | ⟨_, h1, _⟩ | ⟨_, z', h1, r, e, rfl, ht⟩
    · omega
    · exact absurd h (h1 q)
    · obtain rfl : q = z' := rstr_inj (h.symm.trans h1)
      rcases ht with ⟨_, rfl, h3⟩ | ⟨h2, _⟩
      · exact ⟨rfl, h3⟩
      · exact absurd (fits_len (q := q) (h ▸ Nat.le_trans hl (by decide))) h2⟩
set_option maxRecDepth 100000 in
theorem lrat_c {S : Nat → Prop} {w : World} {v : Value} {q : Rat} {n : Nat} (hS : Up S w) (h : QV S w v q) (hq : rl q n) (hn : n ≤ 700) :
    Gives Tryz.prog 27 [v] w fun v' w' => Ext w w' ∧ RatV S w' v' q := by
  have hs := rstr_short hq
  refine t_gives (E := env) (S0 := S) (G := (qG v (q))) (l := [.one (.ag 4 v)]) Tryz.func27 rfl rfl rfl ⟨h.ok, trivial⟩ rfl h ?_
  refine s_K (.one (.str (rstr q))) ⟨env_ok, hS, noLent⟩ (by kernel_rfl) (by kernel_rfl) (svB_ok rfl) rfl (fun β S w hS hs hw hG => have h := hG; ⟨_, (by kernel_rfl), zform_c hS h (rl_mono hq (by omega))⟩) ?_
  refine s_1 (fun x0 => pr (.ag 3 (tupAt x0)) (.lit .i64 0)) (fun x0 => tryG x0 (q) 0) ⟨env_ok, hS, noLent⟩ (by kernel_rfl) (by kernel_rfl) (fun _ _ _ h => tryG_ok h) (fun β S w hS hs hw hG => ⟨_, (by kernel_rfl), rparse_w (s := rstr q) hS (by omega) rfl⟩) ?_
  intro r
  exact s_ret (tupAt r) ⟨env_ok, hS, noLent⟩ (by kernel_rfl) rfl (by kernel_rfl) (fun β => (by kernel_rfl)) (fun S w hs hw hG => have hr := hG.1; ⟨hw, hr.2.mono fun k _ hk => hs k hk⟩)
set_option maxRecDepth 100000 in
theorem ltriple_c {S : Nat → Prop} {w : World} {vp : Value} {p : T3} {n : Nat} (hS : Up S w) (hp : QTripV S w vp p) (hq : tl p n) (hn : n ≤ 700) :
    Gives Tryz.prog 7 [vp] w fun v' w' => Ext w w' ∧ TripV S w' v' p := by
  obtain ⟨a, b, c, rfl, ha, hb, hc⟩ := hp
  refine t_gives (E := env) (S0 := S) (G := ((qG a p.x).and ((qG b p.y).and (qG c p.z)))) (l := [.agg [.ag 4 a, .ag 4 b, .ag 4 c]]) Tryz.func7 rfl rfl rfl ⟨aggOk ⟨ha.okc, hb.okc, hc.okc, trivial⟩, trivial⟩ rfl ⟨ha, hb, hc⟩ ?_
  refine s_drawn 9 ⟨env_ok, hS, noLent⟩ (by kernel_rfl) (by kernel_rfl) (by kernel_rfl) ?_
  refine hd_run 2 (fun η => (by kernel_rfl)) ?_
  refine h_1 (fun x0 => .one (.ag 3 x0)) (fun x0 => ratG x0 (p.x)) (fun η => (by kernel_rfl)) (fun _ _ _ h => ⟨h.ok, rfl⟩) (fun β η S w hS hs hw hG hd => have ha := hG.1; ⟨_, (by kernel_rfl), lrat_c hS ha hq.1 hn⟩) ?_
  refine hd_run 2 (fun η => (by kernel_rfl)) ?_
  refine h_1 (fun x0 => .one (.ag 3 x0)) (fun x0 => ratG x0 (p.y)) (fun η => (by kernel_rfl)) (fun _ _ _ h => ⟨h.ok, rfl⟩) (fun β η S w hS hs hw hG hd => have hb := hG.2.1; ⟨_, (by kernel_rfl), lrat_c hS hb hq.2.1 hn⟩) ?_
  refine hd_run 2 (fun η => (by kernel_rfl)) ?_
  refine h_1 (fun x0 => .one (.ag 3 x0)) (fun x0 => ratG x0 (p.z)) (fun η => (by kernel_rfl)) (fun _ _ _ h => ⟨h.ok, rfl⟩) (fun β η S w hS hs hw hG hd => have hc := hG.2.2; ⟨_, (by kernel_rfl), lrat_c hS hc hq.2.2 hn⟩) ?_
  refine hd_done (fun η => ((ratG (η 8) (p.z)).and ((ratG (η 5) (p.y)).and ((ratG (η 2) (p.x)).and ((qG a p.x).and ((qG b p.y).and (qG c p.z))))))) (by kernel_rfl) (fun η => (by kernel_rfl)) ?_
  intro η_1
  exact s_ret (tri3 (η_1 2) (η_1 5) (η_1 8)) ⟨env_ok, hS, noLent⟩ (by kernel_rfl) rfl (by kernel_rfl) (fun β => (by kernel_rfl)) (fun S w hs hw hG => have hz := hG.1; have hy := hG.2.1; have hx := hG.2.2.1; ⟨hw, _, _, _, rfl, hx.mono fun k _ hk => hs k hk, hy.mono fun k _ hk => hs k hk, hz.mono fun k _ hk => hs k hk⟩)
set_option maxRecDepth 100000 in
set_option maxHeartbeats 1000000 in
theorem lis_c {S : Nat → Prop} {w : World} {vp vq : Value} {p q : T3} {m : Nat} (ht : Tab w) (hS : Up S w) (hp : TripV S w vp p) (hq : QTripV S w vq q) (hm : tl q m) (hmm : m ≤ 100000) (hnn : ¬ q.None) (he : p = q.normal) :
    Gives Tryz.prog 17 [vp, vq] w fun v' w' => v' = .bool true ∧ Ext w w' := by
  have hl0 := num_ne (T3.lead_ne hnn)
  have r1 : rl (q.x / q.lead) 400000000000 := rl_mono (rl_div hm.1 (rl_lead hm) hl0) (by omega)
  have r2 : rl (q.y / q.lead) 400000000000 := rl_mono (rl_div hm.2.1 (rl_lead hm) hl0) (by omega)
  have r3 : rl (q.z / q.lead) 400000000000 := rl_mono (rl_div hm.2.2 (rl_lead hm) hl0) (by omega)
  subst he
  obtain ⟨a, b, c, rfl, ha, hb, hc⟩ := hp
  replace ha : RatV S w a (q.x / q.lead) := ha
  replace hb : RatV S w b (q.y / q.lead) := hb
  replace hc : RatV S w c (q.z / q.lead) := hc
  refine t_gives (E := env) (S0 := S) (G := ((qtriG vq (q)).and ((ratG a (q.x / q.lead)).and ((ratG b (q.y / q.lead)).and (ratG c (q.z / q.lead)))))) (l := [.agg [.ag 3 a, .ag 3 b, .ag 3 c], .one (.ag 12 vq)]) Tryz.func17 rfl rfl rfl ⟨aggOk ⟨ha.okc, hb.okc, hc.okc, trivial⟩, hq.ok, trivial⟩ rfl ⟨hq, ha, hb, hc⟩ ?_
  refine s_1 (fun x0 => .agg [.ag 4 (cel x0 0 4), .ag 4 (cel x0 4 4), .ag 4 (cel x0 8 4)]) (fun x0 => qtrixG x0 (q.normal)) ⟨env_ok, hS, noLent⟩ (by kernel_rfl) (by kernel_rfl) (fun _ _ _ h => qtrixG_ok h) (fun β S w hS hs hw hG => have hq := hG.1; ⟨_, (by kernel_rfl), (rnormal_c hS hq hm (by omega) hnn).mono fun v' w' h => ⟨h.1, qtrix h.2⟩⟩) ?_
  intro n
  refine s_goU ⟨env_ok, hS, noLent⟩ (by kernel_rfl) ?_
  refine s_drawn 9 ⟨env_ok, hS, noLent⟩ (by kernel_rfl) (by kernel_rfl) (by kernel_rfl) ?_
  refine hd_run 3 (fun η => (by kernel_rfl)) ?_
  refine h_K (.one (.str (rstr (q.x / q.lead)))) (fun η => (by kernel_rfl)) (svB_ok rfl) rfl (fun β η S w hS hs hw hG hd => have ha := hG.2.2.1; ⟨_, (by kernel_rfl), rstr_c (ht.to hw) ha r1⟩) ?_
  refine hd_run 3 (fun η => (by kernel_rfl)) ?_
  refine h_K (.one (.str (rstr (q.x / q.lead)))) (fun η => (by kernel_rfl)) (svB_ok rfl) rfl (fun β η S w hS hs hw hG hd => have hn := hG.1; ⟨_, (by kernel_rfl), zform_c hS hn.2.1 r1⟩) ?_
  refine hd_tst (p := rstr (q.x / q.lead) ≠ rstr (q.x / q.lead)) false (fun η => (by kernel_rfl)) (fun η => (by kernel_rfl)) (fun η => (by kernel_rfl)) ⟨fun h => absurd h (fun h => h rfl), fun h => by cases h⟩ ?_
  refine hd_done (fun η => ((Gh.nil).and ((Gh.nil).and ((qtrixG n (q.normal)).and ((qtriG vq (q)).and ((ratG a (q.x / q.lead)).and ((ratG b (q.y / q.lead)).and (ratG c (q.z / q.lead))))))))) (by kernel_rfl) (fun η => (by kernel_rfl)) ?_
  intro η_1
  refine s_drawn 9 ⟨env_ok, hS, noLent⟩ (by kernel_rfl) (by kernel_rfl) (by kernel_rfl) ?_
  refine hd_run 3 (fun η => (by kernel_rfl)) ?_
  refine h_K (.one (.str (rstr (q.y / q.lead)))) (fun η => (by kernel_rfl)) (svB_ok rfl) rfl (fun β η S w hS hs hw hG hd => have hb := hG.2.2.2.2.2.1; ⟨_, (by kernel_rfl), rstr_c (ht.to hw) hb r2⟩) ?_
  refine hd_run 3 (fun η => (by kernel_rfl)) ?_
  refine h_K (.one (.str (rstr (q.y / q.lead)))) (fun η => (by kernel_rfl)) (svB_ok rfl) rfl (fun β η S w hS hs hw hG hd => have hn := hG.2.2.1; ⟨_, (by kernel_rfl), zform_c hS hn.2.2.1 r2⟩) ?_
  refine hd_tst (p := rstr (q.y / q.lead) ≠ rstr (q.y / q.lead)) false (fun η => (by kernel_rfl)) (fun η => (by kernel_rfl)) (fun η => (by kernel_rfl)) ⟨fun h => absurd h (fun h => h rfl), fun h => by cases h⟩ ?_
  refine hd_done (fun η => ((Gh.nil).and ((Gh.nil).and ((Gh.nil).and ((Gh.nil).and ((qtrixG n (q.normal)).and ((qtriG vq (q)).and ((ratG a (q.x / q.lead)).and ((ratG b (q.y / q.lead)).and (ratG c (q.z / q.lead))))))))))) (by kernel_rfl) (fun η => (by kernel_rfl)) ?_
  intro η_2
  refine s_drawn 9 ⟨env_ok, hS, noLent⟩ (by kernel_rfl) (by kernel_rfl) (by kernel_rfl) ?_
  refine hd_run 3 (fun η => (by kernel_rfl)) ?_
  refine h_K (.one (.str (rstr (q.z / q.lead)))) (fun η => (by kernel_rfl)) (svB_ok rfl) rfl (fun β η S w hS hs hw hG hd => have hc := hG.2.2.2.2.2.2.2.2; ⟨_, (by kernel_rfl), rstr_c (ht.to hw) hc r3⟩) ?_
  refine hd_run 3 (fun η => (by kernel_rfl)) ?_
  refine h_K (.one (.str (rstr (q.z / q.lead)))) (fun η => (by kernel_rfl)) (svB_ok rfl) rfl (fun β η S w hS hs hw hG hd => have hn := hG.2.2.2.2.1; ⟨_, (by kernel_rfl), zform_c hS hn.2.2.2 r3⟩) ?_
  refine hd_tst (p := rstr (q.z / q.lead) ≠ rstr (q.z / q.lead)) false (fun η => (by kernel_rfl)) (fun η => (by kernel_rfl)) (fun η => (by kernel_rfl)) ⟨fun h => absurd h (fun h => h rfl), fun h => by cases h⟩ ?_
  refine hd_done (fun η => ((Gh.nil).and ((Gh.nil).and ((Gh.nil).and ((Gh.nil).and ((Gh.nil).and ((Gh.nil).and ((qtrixG n (q.normal)).and ((qtriG vq (q)).and ((ratG a (q.x / q.lead)).and ((ratG b (q.y / q.lead)).and (ratG c (q.z / q.lead))))))))))))) (by kernel_rfl) (fun η => (by kernel_rfl)) ?_
  intro η_3
  exact s_ret (.bool true) ⟨env_ok, hS, noLent⟩ (by kernel_rfl) rfl (by kernel_rfl) (fun β => (by kernel_rfl)) (fun S w hs hw hG => ⟨rfl, hw⟩)
set_option maxRecDepth 100000 in
theorem lzero_c {S : Nat → Prop} {w : World} {vp : Value} {p : T3} (hS : Up S w) (hp : TripV S w vp p) (h0 : p.None) :
    Gives Tryz.prog 16 [vp] w fun v' w' => v' = .bool true ∧ Ext w w' := by
  obtain ⟨a, b, c, rfl, ha, hb, hc⟩ := hp
  rw [h0.1] at ha
  rw [h0.2.1] at hb
  rw [h0.2.2] at hc
  refine t_gives (E := env) (S0 := S) (G := ((ratG a 0).and ((ratG b 0).and (ratG c 0)))) (l := [.agg [.ag 3 a, .ag 3 b, .ag 3 c]]) Tryz.func16 rfl rfl rfl ⟨aggOk ⟨ha.okc, hb.okc, hc.okc, trivial⟩, trivial⟩ rfl ⟨ha, hb, hc⟩ ?_
  refine s_K (.one (.lit .i64 0)) ⟨env_ok, hS, noLent⟩ (by kernel_rfl) (by kernel_rfl) (svB_ok rfl) rfl (fun β S w hS hs hw hG => have ha := hG.1; ⟨_, (by kernel_rfl), gK (rsign_c ha) rfl⟩) ?_
  refine s_K (.one (.lit .i64 0)) ⟨env_ok, hS, noLent⟩ (by kernel_rfl) (by kernel_rfl) (svB_ok rfl) rfl (fun β S w hS hs hw hG => have hb := hG.2.1; ⟨_, (by kernel_rfl), gK (rsign_c hb) rfl⟩) ?_
  refine s_K (.one (.lit .i64 0)) ⟨env_ok, hS, noLent⟩ (by kernel_rfl) (by kernel_rfl) (svB_ok rfl) rfl (fun β S w hS hs hw hG => have hc := hG.2.2; ⟨_, (by kernel_rfl), gK (rsign_c hc) rfl⟩) ?_
  exact s_ret (.bool true) ⟨env_ok, hS, noLent⟩ (by kernel_rfl) rfl (by kernel_rfl) (fun β => (by kernel_rfl)) (fun S w hs hw hG => ⟨rfl, hw⟩)
noncomputable def small4 (z : Int) : Int := IntKind.u64.wrap z % 9 - 4
theorem wrap_u64_nn (z : Int) : 0 ≤ IntKind.u64.wrap z := by
  simp only [IntKind.wrap, IntKind.signed, IntKind.bits]
  exact Int.emod_nonneg _ (by decide)
theorem small4_b (z : Int) : -4 ≤ small4 z ∧ small4 z ≤ 4 := by unfold small4; omega
set_option maxRecDepth 100000 in
theorem lsmall4_c {S : Nat → Prop} {w : World} {z : Int} (hS : Up S w) :
    Gives Tryz.prog 20 [.int .i64 z, .int .i64 4] w fun v' w' => v' = .int .i64 (small4 z) ∧ Ext w w' := by
  have hz := wrap_u64_nn z
  refine t_gives (E := env) (S0 := S) (G := Gh.nil) (l := [.one (.int .i64 z), .one (.lit .i64 4)]) Tryz.func20 rfl rfl rfl ⟨trivial, trivial, trivial⟩ rfl trivial ?_
  refine s_vc (ps := [InR .i64 (IntKind.u64.wrap z % 9 - 4), InR .i64 (IntKind.u64.wrap z % 9), 0 ≤ IntKind.u64.wrap z ∧ (0 : Int) < 9]) ⟨env_ok, hS, noLent⟩ (by kernel_rfl) (by simp only [AllT, InR, and_true]; omega) ?_
  exact s_ret (.int .i64 (IntKind.u64.wrap z % 9 - 4)) ⟨env_ok, hS, noLent⟩ (by kernel_rfl) rfl (by kernel_rfl) (fun β => (by kernel_rfl)) (fun S w hs hw hG => ⟨rfl, hw⟩)
noncomputable def intsC (a b c : Int) : Int := if a = 0 ∧ b = 0 ∧ c = 0 then 1 else c
noncomputable def intsT (a b c : Int) : T3 := ⟨(a : Rat), (b : Rat), ((intsC a b c : Int) : Rat)⟩
abbrev I63 (z : Int) : Prop := -9223372036854775808 ≤ z ∧ z ≤ 9223372036854775807
theorem intsC_b {a b c : Int} (h : I63 c) : I63 (intsC a b c) := by unfold intsC; split <;> omega
set_option maxRecDepth 100000 in
theorem lints_c {S : Nat → Prop} {w : World} {a b c : Int} (hS : Up S w) (ha : I63 a) (hb : I63 b) (hc : I63 c) :
    Gives Tryz.prog 25 [.int .i64 a, .int .i64 b, .int .i64 c] w fun v' w' => Ext w w' ∧ QTripV S w' v' (intsT a b c) := by
  have hc2 := intsC_b (a := a) (b := b) hc
  refine t_gives (E := env) (S0 := S) (G := Gh.nil) (l := [.one (.int .i64 a), .one (.int .i64 b), .one (.int .i64 c)]) Tryz.func25 rfl rfl rfl ⟨trivial, trivial, trivial, trivial⟩ rfl trivial ?_
  refine s_midK (ι := Int) 0 1 [(2, 2), (7, 16)] (fun d => [(2, .one (.int .i64 d))]) (fun _ => []) (fun d => Gh.nil) (fun d => d = intsC a b c) ⟨env_ok, hS, noLent⟩ (by kernel_rfl) (by kernel_rfl) (fun hso => ?_) (fun d hd => ?_)
  · refine s_slot (p := a = 0) 9 ⟨env_ok, hS, noLent⟩ (by kernel_rfl) (by kernel_rfl) (fun h1 => ?_) (fun h1 => ?_)
    · refine s_slot (p := b = 0) 13 ⟨env_ok, hS, noLent⟩ (by kernel_rfl) (by kernel_rfl) (fun h2 => ?_) (fun h2 => ?_)
      · refine s_if (p := c = 0) ⟨env_ok, hS, noLent⟩ (by kernel_rfl) (by kernel_rfl) (by kernel_rfl) (fun h3 => ?_) (fun h3 => ?_)
        · exact s_join (1) ⟨env_ok, hS, noLent⟩ hso (by kernel_rfl) (by kernel_rfl) (fun β => (by kernel_rfl)) (fun β => (by kernel_rfl)) (by kernel_rfl) (by unfold intsC; rw [if_pos ⟨h1, h2, h3⟩]) (fun S w hw hG => ⟨ov_free rfl, fun p hp => by cases hp⟩) (fun S w hw hG => hG)
        · exact s_join (c) ⟨env_ok, hS, noLent⟩ hso (by kernel_rfl) (by kernel_rfl) (fun β => (by kernel_rfl)) (fun β => (by kernel_rfl)) (by kernel_rfl) (by unfold intsC; rw [if_neg (fun h => h3 h.2.2)]) (fun S w hw hG => ⟨ov_free rfl, fun p hp => by cases hp⟩) (fun S w hw hG => hG)
      · exact s_join (c) ⟨env_ok, hS, noLent⟩ hso (by kernel_rfl) (by kernel_rfl) (fun β => (by kernel_rfl)) (fun β => (by kernel_rfl)) (by kernel_rfl) (by unfold intsC; rw [if_neg (fun h => h2 h.2.1)]) (fun S w hw hG => ⟨ov_free rfl, fun p hp => by cases hp⟩) (fun S w hw hG => hG)
    · exact s_join (c) ⟨env_ok, hS, noLent⟩ hso (by kernel_rfl) (by kernel_rfl) (fun β => (by kernel_rfl)) (fun β => (by kernel_rfl)) (by kernel_rfl) (by unfold intsC; rw [if_neg (fun h => h1 h.1)]) (fun S w hw hG => ⟨ov_free rfl, fun p hp => by cases hp⟩) (fun S w hw hG => hG)
  subst hd
  refine s_1 (fun x0 => .one (.ag 4 x0)) (fun x0 => qG x0 (((a : Int) : Rat))) ⟨env_ok, hS, noLent⟩ (by kernel_rfl) (by kernel_rfl) (fun _ _ _ h => ⟨h.ok, rfl⟩) (fun β S w hS hs hw hG => ⟨_, (by kernel_rfl), zint_q hS ha.1 ha.2⟩) ?_
  intro x
  refine s_1 (fun x0 => .one (.ag 4 x0)) (fun x0 => qG x0 (((b : Int) : Rat))) ⟨env_ok, hS, noLent⟩ (by kernel_rfl) (by kernel_rfl) (fun _ _ _ h => ⟨h.ok, rfl⟩) (fun β S w hS hs hw hG => ⟨_, (by kernel_rfl), zint_q hS hb.1 hb.2⟩) ?_
  intro y
  refine s_1 (fun x0 => .one (.ag 4 x0)) (fun x0 => qG x0 (((intsC a b c : Int) : Rat))) ⟨env_ok, hS, noLent⟩ (by kernel_rfl) (by kernel_rfl) (fun _ _ _ h => ⟨h.ok, rfl⟩) (fun β S w hS hs hw hG => ⟨_, (by kernel_rfl), zint_q hS hc2.1 hc2.2⟩) ?_
  intro z
  exact s_ret (tri4 x y z) ⟨env_ok, hS, noLent⟩ (by kernel_rfl) rfl (by kernel_rfl) (fun β => (by kernel_rfl)) (fun S w hs hw hG => have hz := hG.1; have hy := hG.2.1; have hx := hG.2.2.1; ⟨hw, _, _, _, rfl, hx.mono fun k _ hk => hs k hk, hy.mono fun k _ hk => hs k hk, hz.mono fun k _ hk => hs k hk⟩)
noncomputable def tameT (a : Nat → Int) : T3 := intsT (small4 (a 0)) (small4 (a 2)) (small4 (a 4))
theorem six_ok {a : Nat → Int} {m : Nat} : (SV.agg [.int .i64 (a 0), .int .i64 (a 1), .int .i64 (a 2), .int .i64 (a 3), .int .i64 (a 4), .int .i64 (a 5)]).Ok m := aggOk ⟨trivial, trivial, trivial, trivial, trivial, trivial, trivial⟩
theorem i63_small (z : Int) : I63 (small4 z) := by have := small4_b z; unfold I63; omega
set_option maxRecDepth 100000 in
theorem ltame_c {S : Nat → Prop} {w : World} {a : Nat → Int} (hS : Up S w) :
    Gives Tryz.prog 5 [sixV a] w fun v' w' => Ext w w' ∧ QTripV S w' v' (tameT a) := by
  refine t_gives (E := env) (S0 := S) (G := Gh.nil) (l := [.agg [.int .i64 (a 0), .int .i64 (a 1), .int .i64 (a 2), .int .i64 (a 3), .int .i64 (a 4), .int .i64 (a 5)]]) Tryz.func5 rfl rfl rfl ⟨six_ok, trivial⟩ rfl trivial ?_
  refine s_drawn 10 ⟨env_ok, hS, noLent⟩ (by kernel_rfl) (by kernel_rfl) (by kernel_rfl) ?_
  refine hd_run 2 (fun η => (by kernel_rfl)) ?_
  refine h_K (.one (.int .i64 (small4 (a 0)))) (fun η => (by kernel_rfl)) (svB_ok rfl) rfl (fun β η S w hS hs hw hG hd => ⟨_, (by kernel_rfl), lsmall4_c hS⟩) ?_
  refine hd_run 2 (fun η => (by kernel_rfl)) ?_
  refine h_K (.one (.int .i64 (small4 (a 2)))) (fun η => (by kernel_rfl)) (svB_ok rfl) rfl (fun β η S w hS hs hw hG hd => ⟨_, (by kernel_rfl), lsmall4_c hS⟩) ?_
  refine hd_run 2 (fun η => (by kernel_rfl)) ?_
  refine h_K (.one (.int .i64 (small4 (a 4)))) (fun η => (by kernel_rfl)) (svB_ok rfl) rfl (fun β η S w hS hs hw hG hd => ⟨_, (by kernel_rfl), lsmall4_c hS⟩) ?_
  refine h_1 (fun x0 => .one (.ag 12 x0)) (fun x0 => qtriG x0 ((tameT a))) (fun η => (by kernel_rfl)) (fun _ _ _ h => ⟨h.ok, rfl⟩) (fun β η S w hS hs hw hG hd => ⟨_, (by kernel_rfl), lints_c hS (i63_small _) (i63_small _) (i63_small _)⟩) ?_
  refine hd_done (fun η => ((qtriG (η 9) ((tameT a))).and ((Gh.nil).and ((Gh.nil).and ((Gh.nil).and (Gh.nil)))))) (by kernel_rfl) (fun η => (by kernel_rfl)) ?_
  intro η_1
  exact s_ret ((η_1 9)) ⟨env_ok, hS, noLent⟩ (by kernel_rfl) rfl (by kernel_rfl) (fun β => (by kernel_rfl)) (fun S w hs hw hG => have hr := hG.1; ⟨hw, hr.mono fun k _ hk => hs k hk⟩)
def den1 (b : Int) : Int := if b = 0 then 1 else b
def fracT (a b : Int) : Rat := (a : Rat) / (den1 b : Rat)
theorem den1_ne (b : Int) : den1 b ≠ 0 := by unfold den1; split <;> omega
theorem frac_eq (a : Int) {b : Int} (hb : b ≠ 0) : mkRat (a * b.sign) b.natAbs = (a : Rat) / (b : Rat) := by
  have h1 : ((b : Int) : Rat).num ≠ 0 := hb
  rw [rat_over _ _ h1]
  show _ = mkRat (a * (1 : Nat) * b.sign) (1 * b.natAbs)
  rw [Nat.one_mul]
  congr 1
  simp
theorem i63_zl {a : Int} (h : I63 a) : zl a ≤ 3 := dl_le (k := 3) (by unfold I63 at h; omega)
theorem den1_b {b : Int} (h : I63 b) : I63 (den1 b) := by unfold den1; split <;> omega
set_option maxRecDepth 100000 in
theorem lfraction_c {S : Nat → Prop} {w : World} {a b : Int} (hS : Up S w) (ha : I63 a) (hb : I63 b) :
    Gives Tryz.prog 26 [.int .i64 a, .int .i64 b] w fun v' w' => Ext w w' ∧ QV S w' v' (fracT a b) := by
  have hd := den1_b hb
  refine t_gives (E := env) (S0 := S) (G := Gh.nil) (l := [.one (.int .i64 a), .one (.int .i64 b)]) Tryz.func26 rfl rfl rfl ⟨trivial, trivial, trivial⟩ rfl trivial ?_
  refine s_mid (ι := Int) [(1, 1), (5, 6)] (fun e => [(1, .one (.int .i64 e))]) (fun _ => []) (fun e => Gh.nil) (fun e => e = den1 b) ⟨env_ok, hS, noLent⟩ (by kernel_rfl) (fun hso => ?_) (fun e he => ?_)
  · refine s_if (p := b = 0) ⟨env_ok, hS, noLent⟩ (by kernel_rfl) (by kernel_rfl) (by kernel_rfl) (fun h1 => ?_) (fun h1 => ?_)
    · exact s_join (1) ⟨env_ok, hS, noLent⟩ hso (by kernel_rfl) (by kernel_rfl) (fun β => (by kernel_rfl)) (fun β => (by kernel_rfl)) (by kernel_rfl) (by unfold den1; rw [if_pos h1]) (fun S w hw hG => ⟨ov_free rfl, fun p hp => by cases hp⟩) (fun S w hw hG => hG)
    · exact s_join (b) ⟨env_ok, hS, noLent⟩ hso (by kernel_rfl) (by kernel_rfl) (fun β => (by kernel_rfl)) (fun β => (by kernel_rfl)) (by kernel_rfl) (by unfold den1; rw [if_neg h1]) (fun S w hw hG => ⟨ov_free rfl, fun p hp => by cases hp⟩) (fun S w hw hG => hG)
  subst he
  refine s_1 (fun x0 => .one (.ag 4 x0)) (fun x0 => qG x0 ((fracT a b))) ⟨env_ok, hS, noLent⟩ (by kernel_rfl) (by kernel_rfl) (fun _ _ _ h => ⟨h.ok, rfl⟩) (fun β S w hS hs hw hG => ⟨_, (by kernel_rfl), (zfrac_c hS ha.1 ha.2 hd.1 hd.2 (den1_ne b) (i63_zl ha) (i63_zl hd)).mono fun v' w' h => ⟨h.1, by have h2 := h.2; rw [frac_eq a (den1_ne b)] at h2; exact h2⟩⟩) ?_
  intro x
  exact s_ret (x) ⟨env_ok, hS, noLent⟩ (by kernel_rfl) rfl (by kernel_rfl) (fun β => (by kernel_rfl)) (fun S w hs hw hG => have hx := hG.1; ⟨hw, hx.mono fun k _ hk => hs k hk⟩)
noncomputable def pointT (a : Nat → Int) : T3 := ⟨fracT (a 0) (a 1), fracT (a 2) (a 3), fracT (a 4) (a 5)⟩
set_option maxRecDepth 100000 in
theorem lpoint_c {S : Nat → Prop} {w : World} {a : Nat → Int} (hS : Up S w) (h : Six a) :
    Gives Tryz.prog 6 [sixV a] w fun v' w' => Ext w w' ∧ QTripV S w' v' (pointT a) := by
  refine t_gives (E := env) (S0 := S) (G := Gh.nil) (l := [.agg [.int .i64 (a 0), .int .i64 (a 1), .int .i64 (a 2), .int .i64 (a 3), .int .i64 (a 4), .int .i64 (a 5)]]) Tryz.func6 rfl rfl rfl ⟨six_ok, trivial⟩ rfl trivial ?_
  refine s_drawn 15 ⟨env_ok, hS, noLent⟩ (by kernel_rfl) (by kernel_rfl) (by kernel_rfl) ?_
  refine hd_run 4 (fun η => (by kernel_rfl)) ?_
  refine h_1 (fun x0 => .one (.ag 4 x0)) (fun x0 => qG x0 ((fracT (a 0) (a 1)))) (fun η => (by kernel_rfl)) (fun _ _ _ h => ⟨h.ok, rfl⟩) (fun β η S w hS hs hw hG hd => ⟨_, (by kernel_rfl), lfraction_c hS (h 0 (by decide)) (h 1 (by decide))⟩) ?_
  refine hd_run 4 (fun η => (by kernel_rfl)) ?_
  refine h_1 (fun x0 => .one (.ag 4 x0)) (fun x0 => qG x0 ((fracT (a 2) (a 3)))) (fun η => (by kernel_rfl)) (fun _ _ _ h => ⟨h.ok, rfl⟩) (fun β η S w hS hs hw hG hd => ⟨_, (by kernel_rfl), lfraction_c hS (h 2 (by decide)) (h 3 (by decide))⟩) ?_
  refine hd_run 4 (fun η => (by kernel_rfl)) ?_
  refine h_1 (fun x0 => .one (.ag 4 x0)) (fun x0 => qG x0 ((fracT (a 4) (a 5)))) (fun η => (by kernel_rfl)) (fun _ _ _ h => ⟨h.ok, rfl⟩) (fun β η S w hS hs hw hG hd => ⟨_, (by kernel_rfl), lfraction_c hS (h 4 (by decide)) (h 5 (by decide))⟩) ?_
  refine hd_done (fun η => ((qG (η 14) ((fracT (a 4) (a 5)))).and ((qG (η 9) ((fracT (a 2) (a 3)))).and ((qG (η 4) ((fracT (a 0) (a 1)))).and (Gh.nil))))) (by kernel_rfl) (fun η => (by kernel_rfl)) ?_
  intro η_1
  exact s_ret (tri4 (η_1 4) (η_1 9) (η_1 14)) ⟨env_ok, hS, noLent⟩ (by kernel_rfl) rfl (by kernel_rfl) (fun β => (by kernel_rfl)) (fun S w hs hw hG => have hz := hG.1; have hy := hG.2.1; have hx := hG.2.2.1; ⟨hw, _, _, _, rfl, hx.mono fun k _ hk => hs k hk, hy.mono fun k _ hk => hs k hk, hz.mono fun k _ hk => hs k hk⟩)
theorem tl_ints {a b c : Int} (ha : zl a ≤ 3) (hb : zl b ≤ 3) (hc : zl (intsC a b c) ≤ 3) : tl (intsT a b c) 3 :=
  ⟨⟨ha, Nat.le_trans (dl_le (k := 1) (show 1 < 1000000000 ^ 1 by decide)) (by decide)⟩, ⟨hb, Nat.le_trans (dl_le (k := 1) (show 1 < 1000000000 ^ 1 by decide)) (by decide)⟩, ⟨hc, Nat.le_trans (dl_le (k := 1) (show 1 < 1000000000 ^ 1 by decide)) (by decide)⟩⟩
theorem tl_tame (a : Nat → Int) : tl (tameT a) 3 := tl_ints (i63_zl (i63_small _)) (i63_zl (i63_small _)) (i63_zl (intsC_b (i63_small _)))
theorem rl_frac {a b : Int} (ha : I63 a) (hb : I63 b) : rl (fracT a b) 3 := rl_ratio (i63_zl ha) (i63_zl (den1_b hb)) (by decide)
theorem tl_point {a : Nat → Int} (h : Six a) : tl (pointT a) 3 := ⟨rl_frac (h 0 (by decide)) (h 1 (by decide)), rl_frac (h 2 (by decide)) (h 3 (by decide)), rl_frac (h 4 (by decide)) (h 5 (by decide))⟩
end Go.Proofs.YtpheooheinfbgaaGreatDoor
end
section
set_option linter.unusedVariables false
set_option linter.unusedSimpArgs false
namespace Go.Proofs.YtpheooheinfbgaaGreatDoor
open Go Go.RowKit
def zero4r : List Value := [.bool false, .slice none 0 0, .slice none 0 0, .bool false]
def RatioV (S : Nat → Prop) (w : World) (v : Value) (q : Rat) (p : Prop) : Prop := ∃ x, v = (SV.agg [.ag 3 x, .tp p]).den (fun _ => 0) ∧ RatV S w x q
section
variable {S S' : Nat → Prop} {w w' : World} {v : Value} {q : Rat} {p : Prop}
theorem RatioV.keep (h : RatioV S w v q p) (k : Keeps S w w') : RatioV S w' v q p := let ⟨x, h1, h2⟩ := h; ⟨x, h1, h2.keep k⟩
theorem RatioV.mono (h : RatioV S w v q p) (hs : ∀ k, k < w.heap.size → S k → S' k) : RatioV S' w v q p := let ⟨x, h1, h2⟩ := h; ⟨x, h1, h2.mono hs⟩
theorem RatioV.ok (h : RatioV S w v q p) : (SV.one (.ag 4 v)).Ok 0 := by
  obtain ⟨x, rfl, h2⟩ := h
  exact ag_cat (l := [.ag 3 x, .tp p]) (aggOk (m := 0) ⟨h2.ok, trivial, trivial⟩) rfl
end
theorem zero4r_one : ∀ v ∈ zero4r, v.oneCell' = true := by
  intro v hv
  simp only [zero4r, List.mem_cons, List.not_mem_nil, or_false] at hv
  rcases hv with rfl | rfl | rfl | rfl <;> rfl
theorem qcatch_idle {w : World} {g1 g2 : Nat} : GivesD Tryz.prog 103 [.pointer (some ⟨g1, 0, none⟩), .pointer (some ⟨g2, 0, none⟩)] .returning w fun u' w' => u' = .returning ∧ w' = w := by
  refine givesD_recover Tryz.func103 rfl rfl rfl rfl rfl (.inl ⟨rfl, rfl, rfl⟩) ?_
  repeat (first | refine r_neq_nilIface rfl ?_ | refine wp_seq_region ?_ | refine wp_region ?_ | refine r_move (by conv => (lhs; whnf)) ?_ | refine r_nil ?_ | refine q_then ?_ | refine wp_skip ?_ | refine wp_cond_false rfl ?_)
  exact ⟨[], rfl, rfl, rfl⟩
theorem qcatch_fail {w : World} {g1 g2 : Nat} {cs1 : List Value} {e : Value} {E : Int} (h1 : Blk w g1 114 cs1) (hl : cs1.length = 4) (h2 : Blk w g2 46 [e]) :
    GivesD Tryz.prog 103 [.pointer (some ⟨g1, 0, none⟩), .pointer (some ⟨g2, 0, none⟩)] (.panicking (failE E)) w fun u' w' => settle u' = .returning ∧
      Keeps (fun k => k ≠ g1 ∧ k ≠ g2) w w' ∧ Blk w' g1 114 zero4r ∧ Blk w' g2 46 [.int .i64 E] := by
  have hne : g1 ≠ g2 := h1.ne h2 (by decide)
  refine givesD_recover Tryz.func103 rfl rfl rfl rfl rfl (.inr ⟨_, rfl, rfl, rfl⟩) ?_
  repeat (first | refine r_neq_iface rfl ?_ | refine r_assert rfl ?_ | refine wp_seq_region ?_ | refine wp_region ?_ | refine r_move (by conv => (lhs; whnf)) ?_ | refine r_nil ?_ | refine q_then ?_ | refine r_extract rfl rfl ?_ | refine wp_cond_true rfl ?_)
  refine r_alloc (cs := [.int .i64 0]) rfl ?_
  intro w1 g3 k1 hg3 hgs3
  have hl1 := h1.lt
  have hl2 := h2.lt
  refine r_store_all (us := [.int .i64 E]) rfl (by conv => (lhs; whnf)) rfl rfl hg3 rfl (fun v hv => by rw [List.mem_singleton.1 hv]; rfl) ?_
  intro w2 k2 hg32
  repeat (first | refine r_not rfl ?_ | refine wp_seq_region ?_ | refine wp_seq_seq ?_ | refine wp_region ?_ | refine r_move (by conv => (lhs; whnf)) ?_ | refine r_assign (by conv => (lhs; whnf)) ?_ | refine r_nil ?_ | refine q_then ?_ | refine wp_skip ?_ | refine wp_cond_false rfl ?_)
  refine r_alloc (cs := zero4r) rfl ?_
  intro w3 g5 k3 hg5 hgs5
  have k : Ext w w3 := (Keeps.past k1 k2 hgs3).trans k3
  have hg33 := hg32.to k3
  have hl3 := hg32.lt
  repeat (first | refine r_nil ?_ | refine q_then ?_)
  refine wp_drawnR (R := OneW g1 114 cs1 zero4r) 4 OneW.trans OneW.drew (by kernel_rfl) (by kernel_rfl) ?_
  apply ob_stepR
  · intro x w1 k1 hd
    refine r_load_all rfl (hg5.wr k1.1 (by omega)) rfl ?_
    refine r_nil ?_
    exact ob_eqR OneW.refl
  apply ob_stepR
  · intro x w1 k1 hd
    refine r_field rfl ?_
    refine r_nil ?_
    exact ob_eqR OneW.refl
  apply ob_stepR
  · intro x w1 k1 hd
    refine r_load_blk rfl (hg33.wr k1.1 (by omega)) rfl ?_
    refine r_nil ?_
    exact ob_eqR OneW.refl
  refine ob_stepR (e := EntR.of (fun v w => Blk w g1 114 zero4r) (fun v w w' h k => k.2.2 h)) ?_ ?_
  · intro x w1 k1 hd
    rcases k1.2.1 (.inl (h1.to k)) with hgx | hgx
    · refine r_store_all (us := zero4r) rfl (by conv => (lhs; whnf)) rfl rfl hgx hl zero4r_one ?_
      intro w12 k12 hg12
      exact r_nil (ob_doneR (OneW.wrote k12 hg12) hg12)
    · refine r_store_all (us := zero4r) rfl (by conv => (lhs; whnf)) rfl rfl hgx rfl zero4r_one ?_
      intro w12 k12 hg12
      exact r_nil (ob_doneR (OneW.wrote k12 hg12) hg12)
  refine ob_nilR (ob_endR ?_)
  intro x w12 k12 hall
  have h14 : Blk w12 g1 114 zero4r := hall.1
  refine r_store (u := .int .i64 E) rfl rfl ((h2.to k).wr k12.1 (fun e => hne e.symm)) (show 0 < 1 by decide) rfl ?_
  intro w5 k5 h25
  repeat (first | refine r_nil ?_)
  refine ⟨[], rfl, rfl, ?_, h14.wr k5 hne, h25⟩
  exact ((Keeps.of k).trans (k12.1.mono fun i hi => hi.1)).trans (k5.mono fun i hi => hi.2)
theorem qattempt_c {S : Nat → Prop} {w : World} {F : FuncId} [ci : CallI Tryz.prog F] {cap : List Value} {t : Rat} {p : Prop} {E : Int} {Y Z : Prop} (hS : Up S w)
    (h : ∀ S' w', Up S' w' → Ext w w' → (∀ k, S' k → S k) → (∀ k, k < w.heap.size → S k → S' k) → GivesE Tryz.prog F cap w' (fun v w'' => Ext w' w'' ∧ RatioV S' w'' v t p ∧ Y) fun ch w'' => ch = failE E ∧ Ext w' w'' ∧ Z) :
    Gives Tryz.prog 62 [.func (.func F) #[] cap.toArray] w fun v' w' => Ext w w' ∧ ((∃ x, v' = .tuple #[x, .int .i64 0] ∧ RatioV S w' x t p ∧ Y) ∨ (v' = .tuple #[.agg zero4r.toArray, .int .i64 E] ∧ Z)) := by
  refine gives_of_defer Tryz.func62 rfl rfl rfl ?_
  refine wpD_seq ?_
  repeat (first | refine wp_region ?_)
  refine r_alloc (cs := zero4r) rfl ?_
  intro w1 g1 k1 hg1 hgs1
  skip
  refine r_alloc (cs := [.int .i64 0]) rfl ?_
  intro w2 g2 k2 hg2 hgs2
  have hgl := hg1.lt
  have hgl2 := hg2.lt
  replace hg1 := hg1.to k2
  have k := k1.trans k2
  have hk1 := k1.size
  have hk2 := k2.size
  have hS2 : Up (fun k => S k ∧ k ≠ g1 ∧ k ≠ g2) w2 := fun i hi => ⟨hS i (by omega), by omega, by omega⟩
  have hc := h (fun k => S k ∧ k ≠ g1 ∧ k ≠ g2) w2 hS2 k (fun _ h => h.1) (fun i hi hs => ⟨hs, by omega, by omega⟩)
  repeat (first | refine r_nil ?_ | refine q_then ?_)
  refine wpD_seq_defer ?_
  refine wpD_end ?_ (fun e a ρ w hm hq => defQ_end hm hq)
  repeat (first | refine wp_seq_region ?_ | refine wp_region ?_ | refine r_move (by conv => (lhs; whnf)) ?_)
  refine r_callvE (first := []) (cap := cap) rfl hc rfl ?_ ?_
  · rintro v3 w3 ⟨k3, hf, hy⟩
    obtain ⟨us, hv, hul, hu1⟩ := hf.ok
    skip
    refine r_store_all (us := us) rfl (by conv => (lhs; whnf)) (by rw [hv]; rfl) hul (hg1.to k3) rfl hu1 ?_
    intro w4 k4 hg4
    have hg24 := (hg2.to k3).wr k4 (by omega)
    refine r_store (u := .int .i64 0) rfl rfl hg24 (show 0 < 1 by decide) rfl ?_
    intro w5 k5 hg5
    have hg45 := hg4.wr k5 (by omega)
    repeat (first | refine r_nil ?_ | refine q_then ?_ | refine wp_ret ?_)
    refine qcatch_idle.mono ?_
    rintro u' w' ⟨rfl, rfl⟩
    refine ⟨rfl, [.agg us.toArray, .int .i64 0], ⟨_, _, resV_agg (by conv => (lhs; whnf)) hg45 hul, ⟨_, _, resV_one (by conv => (lhs; whnf)) hg5, rfl, rfl⟩, rfl⟩, ?_⟩
    refine ⟨((Keeps.past (k.trans k3) k4 (by omega)).past k5 (by omega)), .inl ⟨_, rfl, ?_, hy⟩⟩
    rw [← hv]
    exact ((hf.keep (k4.mono fun i hi => hi.2.1)).keep (k5.mono fun i hi => hi.2.2)).mono fun i _ hi => hi.1
  · rintro ch w3 ⟨rfl, k3, hf⟩
    refine q_then_panic ?_
    refine (qcatch_fail (hg1.to k3) rfl (hg2.to k3)).mono ?_
    rintro u' w' ⟨hu, k4, h1, h2⟩
    refine ⟨hu, [.agg zero4r.toArray, .int .i64 E], ⟨_, _, resV_agg (by conv => (lhs; whnf)) h1 rfl, ⟨_, _, resV_one (by conv => (lhs; whnf)) h2, rfl, rfl⟩, rfl⟩, ?_⟩
    exact ⟨Keeps.later (k.trans k3) k4 (fun i hi _ => ⟨by omega, by omega⟩), .inr ⟨rfl, hf⟩⟩
end Go.Proofs.YtpheooheinfbgaaGreatDoor
end
section
set_option linter.unusedVariables false
set_option linter.unusedSimpArgs false
namespace Go.Proofs.YtpheooheinfbgaaGreatDoor
open Go Go.RowKit
abbrev rrG (v : Value) (a b : Rat) : Gh := ⟨fun S w => v = .tuple #[tupN v 0, tupN v 1] ∧ RatV S w (tupN v 0) a ∧ RatV S w (tupN v 1) b, fun h k => ⟨h.1, h.2.1.keep k, h.2.2.keep k⟩, fun h k => ⟨h.1, h.2.1.mono k, h.2.2.mono k⟩⟩
theorem rrG_ok {v : Value} {a b : Rat} {S : Nat → Prop} {w : World} (h : (rrG v a b).p S w) : (pr (.ag 3 (tupN v 0)) (.ag 3 (tupN v 1))).Ok 0 ∧ (pr (.ag 3 (tupN v 0)) (.ag 3 (tupN v 1))).den (fun _ => 0) = v := ⟨ok_pr h.2.1.ok h.2.2.ok, h.1.symm⟩
namespace T3
def over1 (l u : T3) : Rat := if l.x ≠ 0 then u.x / l.x else if l.y ≠ 0 then u.y / l.y else u.z / l.z
def mPart (p q r : T3) : Rat := over1 (p.cross q) (r.cross q)
def nPart (p q r : T3) : Rat := over1 (p.cross q) (p.cross r)
end T3
theorem rl_over1 {l u : T3} {m n : Nat} (hl : tl l m) (hu : tl u n) (hn : ¬ l.None) : rl (T3.over1 l u) (n + m) := by
  unfold T3.over1
  split
  · exact rl_div hu.1 hl.1 (num_ne ‹_›)
  · split
    · exact rl_div hu.2.1 hl.2.1 (num_ne ‹_›)
    · rename_i h1 h2
      refine rl_div hu.2.2 hl.2.2 (num_ne fun h3 => hn ⟨?_, ?_, h3⟩)
      · exact Classical.not_not.1 h1
      · exact Classical.not_not.1 h2
set_option maxRecDepth 100000 in
set_option maxHeartbeats 2000000 in
theorem vparts_2 {S : Nat → Prop} {w : World} {vp vq vr : Value} {p q r : T3} {m : Nat} (hS : Up S w) (hp : TripV S w vp p) (hq : TripV S w vq q) (hr : TripV S w vr r) (hm : tl p m) (hn : tl q m) (hk : tl r m) (hmm : m ≤ 400) (h1 : (p.cross q).x = 0) (h2 : (p.cross q).y = 0) (h0 : (p.cross q).z ≠ 0) :
    Gives Tryz.prog 65 [vp, vq, vr] w fun v' w' => Ext w w' ∧ (rrG v' ((r.cross q).z / (p.cross q).z) ((p.cross r).z / (p.cross q).z)).p S w' := by
  have hc := tl_cross hm hn
  have hf1 : Fits ((r.cross q).z / (p.cross q).z) := fits_rl (rl_div (tl_cross hk hn).2.2 hc.2.2 (num_ne h0)) (by omega)
  have hf2 : Fits ((p.cross r).z / (p.cross q).z) := fits_rl (rl_div (tl_cross hm hk).2.2 hc.2.2 (num_ne h0)) (by omega)
  have hp0 := hp
  have hq0 := hq
  obtain ⟨a1, b1, c1, rfl, ha1, hb1, hc1⟩ := hp
  obtain ⟨a2, b2, c2, rfl, ha2, hb2, hc2⟩ := hq
  obtain ⟨a3, b3, c3, rfl, ha3, hb3, hc3⟩ := hr
  refine t_gives (E := env) (S0 := S) (G := ((ratG a1 p.x).and ((ratG b1 p.y).and ((ratG c1 p.z).and ((ratG a2 q.x).and ((ratG b2 q.y).and ((ratG c2 q.z).and ((ratG a3 r.x).and ((ratG b3 r.y).and (ratG c3 r.z)))))))))) (l := [.agg [.ag 3 a1, .ag 3 b1, .ag 3 c1], .agg [.ag 3 a2, .ag 3 b2, .ag 3 c2], .agg [.ag 3 a3, .ag 3 b3, .ag 3 c3]]) Tryz.func65 rfl rfl rfl ⟨aggOk ⟨ha1.okc, hb1.okc, hc1.okc, trivial⟩, aggOk ⟨ha2.okc, hb2.okc, hc2.okc, trivial⟩, aggOk ⟨ha3.okc, hb3.okc, hc3.okc, trivial⟩, trivial⟩ rfl ⟨ha1, hb1, hc1, ha2, hb2, hc2, ha3, hb3, hc3⟩ ?_
  refine s_1 (fun x0 => .agg [.ag 3 (cel x0 0 3), .ag 3 (cel x0 3 3), .ag 3 (cel x0 6 3)]) (fun x0 => trixG x0 ((p.cross q))) ⟨env_ok, hS, noLent⟩ (by kernel_rfl) (by kernel_rfl) (fun _ _ _ h => trixG_ok h) (fun β S w hS hs hw hG => have ha1 := hG.1; have hb1 := hG.2.1; have hc1 := hG.2.2.1; have ha2 := hG.2.2.2.1; have hb2 := hG.2.2.2.2.1; have hc2 := hG.2.2.2.2.2.1; ⟨_, (by kernel_rfl), (vcross_c hS ⟨_, _, _, rfl, ha1, hb1, hc1⟩ ⟨_, _, _, rfl, ha2, hb2, hc2⟩ hm hn (by omega)).mono fun v' w' h => ⟨h.1, trix h.2⟩⟩) ?_
  intro l
  refine s_goU ⟨env_ok, hS, noLent⟩ (by kernel_rfl) ?_
  refine s_K (.one (.tp ((p.cross q).x = 0))) ⟨env_ok, hS, noLent⟩ (by kernel_rfl) (by kernel_rfl) (svB_ok rfl) rfl (fun β S w hS hs hw hG => have hl := hG.1; ⟨_, (by kernel_rfl), visZero_c hS hl.2.1⟩) ?_
  refine s_yes (p := (p.cross q).x = 0) ⟨env_ok, hS, noLent⟩ (by kernel_rfl) (by kernel_rfl) (by kernel_rfl) (h1) ?_
  refine s_K (.one (.tp ((p.cross q).y = 0))) ⟨env_ok, hS, noLent⟩ (by kernel_rfl) (by kernel_rfl) (svB_ok rfl) rfl (fun β S w hS hs hw hG => have hl := hG.1; ⟨_, (by kernel_rfl), visZero_c hS hl.2.2.1⟩) ?_
  refine s_yes (p := (p.cross q).y = 0) ⟨env_ok, hS, noLent⟩ (by kernel_rfl) (by kernel_rfl) (by kernel_rfl) (h2) ?_
  refine s_K (.one (.tp ((p.cross q).z = 0))) ⟨env_ok, hS, noLent⟩ (by kernel_rfl) (by kernel_rfl) (svB_ok rfl) rfl (fun β S w hS hs hw hG => have hl := hG.1; ⟨_, (by kernel_rfl), visZero_c hS hl.2.2.2⟩) ?_
  refine s_no (p := (p.cross q).z = 0) ⟨env_ok, hS, noLent⟩ (by kernel_rfl) (by kernel_rfl) (by kernel_rfl) (h0) ?_
  refine s_drawn 24 ⟨env_ok, hS, noLent⟩ (by kernel_rfl) (by kernel_rfl) (by kernel_rfl) ?_
  refine hd_run 6 (fun η => (by kernel_rfl)) ?_
  refine h_1 (fun x0 => .one (.ag 3 x0)) (fun x0 => ratG x0 ((r.x * q.y))) (fun η => (by kernel_rfl)) (fun _ _ _ h => ⟨h.ok, rfl⟩) (fun β η S w hS hs hw hG hd => have hb2 := hG.2.2.2.2.2.1; have ha3 := hG.2.2.2.2.2.2.2.1; ⟨_, (by kernel_rfl), vtimes_c hS ha3 hb2 hk.1 hn.2.1 (by omega)⟩) ?_
  refine hd_run 6 (fun η => (by kernel_rfl)) ?_
  refine h_1 (fun x0 => .one (.ag 3 x0)) (fun x0 => ratG x0 ((r.y * q.x))) (fun η => (by kernel_rfl)) (fun _ _ _ h => ⟨h.ok, rfl⟩) (fun β η S w hS hs hw hG hd => have ha2 := hG.2.2.2.2.1; have hb3 := hG.2.2.2.2.2.2.2.2.1; ⟨_, (by kernel_rfl), vtimes_c hS hb3 ha2 hk.2.1 hn.1 (by omega)⟩) ?_
  refine h_1 (fun x0 => .one (.ag 3 x0)) (fun x0 => ratG x0 ((-(r.y * q.x)))) (fun η => (by kernel_rfl)) (fun _ _ _ h => ⟨h.ok, rfl⟩) (fun β η S w hS hs hw hG hd => ⟨_, (by kernel_rfl), rneg_c (dep hd 13 (by kernel_rfl) (by kernel_rfl) : (ratG (η 13) ((r.y * q.x))).p S w)⟩) ?_
  refine hd_lit 42 3 2 (fun x0 => ratsG x0 [r.x * q.y, -(r.y * q.x)]) ⟨env_ok, hS, noLent⟩ (fun η => (by kernel_rfl)) (fun β η S w x0 w' hS hs hw hG hd hk hrow => seq2 ((dep hd 6 (by kernel_rfl) (by kernel_rfl) : (ratG (η 6) ((r.x * q.y))).p S w).to hk) ((dep hd 14 (by kernel_rfl) (by kernel_rfl) : (ratG (η 14) ((-(r.y * q.x)))).p S w).to hk) (kc hrow (by kernel_rfl))) ?_
  refine h_1 (fun x0 => .one (.ag 3 x0)) (fun x0 => ratG x0 (((r.cross q).z))) (fun η => (by kernel_rfl)) (fun _ _ _ h => ⟨h.ok, rfl⟩) (fun β η S w hS hs hw hG hd => ⟨_, (by kernel_rfl), vsum_q (m := m + m) (lsum_sub _ _) hS (dep hd 15 (by kernel_rfl) (by kernel_rfl) : (ratsG (η 15) [r.x * q.y, -(r.y * q.x)]).p S w) (all2 (rl_mul hk.1 hn.2.1) (rl_neg (rl_mul hk.2.1 hn.1))) (by simp only [List.length]; omega)⟩) ?_
  refine hd_run 3 (fun η => (by kernel_rfl)) ?_
  refine h_1 (fun x0 => pr (.ag 3 (tupAt x0)) (.lit .i64 0)) (fun x0 => tryG x0 (((r.cross q).z / (p.cross q).z)) 0) (fun η => (by kernel_rfl)) (fun _ _ _ h => tryG_ok h) (fun β η S w hS hs hw hG hd => have hl := hG.1; ⟨_, (by kernel_rfl), fit_g hf1 (rquo_c hS (dep hd 16 (by kernel_rfl) (by kernel_rfl) : (ratG (η 16) (((r.cross q).z))).p S w) hl.2.2.2 (rl_mono (tl_cross hk hn).2.2 (by omega)) (rl_mono hc.2.2 (by omega)) (num_ne h0))⟩) ?_
  refine hd_run 2 (fun η => (by kernel_rfl)) ?_
  refine h_1 (fun x0 => .one (.ag 3 x0)) (fun x0 => ratG x0 (((r.cross q).z / (p.cross q).z))) (fun η => (by kernel_rfl)) (fun _ _ _ h => ⟨h.ok, rfl⟩) (fun β η S w hS hs hw hG hd => ⟨_, (by kernel_rfl), vmust_c hS (dep hd 20 (by kernel_rfl) (by kernel_rfl) : (tryG (η 20) (((r.cross q).z / (p.cross q).z)) 0).p S w).2⟩) ?_
  refine hd_done (fun η => ((ratG (η 23) (((r.cross q).z / (p.cross q).z))).and ((tryG (η 20) (((r.cross q).z / (p.cross q).z)) 0).and ((ratG (η 16) (((r.cross q).z))).and ((ratsG (η 15) [r.x * q.y, -(r.y * q.x)]).and ((ratG (η 14) ((-(r.y * q.x)))).and ((ratG (η 13) ((r.y * q.x))).and ((ratG (η 6) ((r.x * q.y))).and ((trixG l ((p.cross q))).and ((ratG a1 p.x).and ((ratG b1 p.y).and ((ratG c1 p.z).and ((ratG a2 q.x).and ((ratG b2 q.y).and ((ratG c2 q.z).and ((ratG a3 r.x).and ((ratG b3 r.y).and (ratG c3 r.z)))))))))))))))))) (by kernel_rfl) (fun η => (by kernel_rfl)) ?_
  intro η_1
  refine s_drawn 24 ⟨env_ok, hS, noLent⟩ (by kernel_rfl) (by kernel_rfl) (by kernel_rfl) ?_
  refine hd_run 6 (fun η => (by kernel_rfl)) ?_
  refine h_1 (fun x0 => .one (.ag 3 x0)) (fun x0 => ratG x0 ((p.x * r.y))) (fun η => (by kernel_rfl)) (fun _ _ _ h => ⟨h.ok, rfl⟩) (fun β η S w hS hs hw hG hd => have ha1 := hG.2.2.2.2.2.2.2.2.1; have hb3 := hG.2.2.2.2.2.2.2.2.2.2.2.2.2.2.2.1; ⟨_, (by kernel_rfl), vtimes_c hS ha1 hb3 hm.1 hk.2.1 (by omega)⟩) ?_
  refine hd_run 6 (fun η => (by kernel_rfl)) ?_
  refine h_1 (fun x0 => .one (.ag 3 x0)) (fun x0 => ratG x0 ((p.y * r.x))) (fun η => (by kernel_rfl)) (fun _ _ _ h => ⟨h.ok, rfl⟩) (fun β η S w hS hs hw hG hd => have hb1 := hG.2.2.2.2.2.2.2.2.2.1; have ha3 := hG.2.2.2.2.2.2.2.2.2.2.2.2.2.2.1; ⟨_, (by kernel_rfl), vtimes_c hS hb1 ha3 hm.2.1 hk.1 (by omega)⟩) ?_
  refine h_1 (fun x0 => .one (.ag 3 x0)) (fun x0 => ratG x0 ((-(p.y * r.x)))) (fun η => (by kernel_rfl)) (fun _ _ _ h => ⟨h.ok, rfl⟩) (fun β η S w hS hs hw hG hd => ⟨_, (by kernel_rfl), rneg_c (dep hd 13 (by kernel_rfl) (by kernel_rfl) : (ratG (η 13) ((p.y * r.x))).p S w)⟩) ?_
  refine hd_lit 42 3 2 (fun x0 => ratsG x0 [p.x * r.y, -(p.y * r.x)]) ⟨env_ok, hS, noLent⟩ (fun η => (by kernel_rfl)) (fun β η S w x0 w' hS hs hw hG hd hk hrow => seq2 ((dep hd 6 (by kernel_rfl) (by kernel_rfl) : (ratG (η 6) ((p.x * r.y))).p S w).to hk) ((dep hd 14 (by kernel_rfl) (by kernel_rfl) : (ratG (η 14) ((-(p.y * r.x)))).p S w).to hk) (kc hrow (by kernel_rfl))) ?_
  refine h_1 (fun x0 => .one (.ag 3 x0)) (fun x0 => ratG x0 (((p.cross r).z))) (fun η => (by kernel_rfl)) (fun _ _ _ h => ⟨h.ok, rfl⟩) (fun β η S w hS hs hw hG hd => ⟨_, (by kernel_rfl), vsum_q (m := m + m) (lsum_sub _ _) hS (dep hd 15 (by kernel_rfl) (by kernel_rfl) : (ratsG (η 15) [p.x * r.y, -(p.y * r.x)]).p S w) (all2 (rl_mul hm.1 hk.2.1) (rl_neg (rl_mul hm.2.1 hk.1))) (by simp only [List.length]; omega)⟩) ?_
  refine hd_run 3 (fun η => (by kernel_rfl)) ?_
  refine h_1 (fun x0 => pr (.ag 3 (tupAt x0)) (.lit .i64 0)) (fun x0 => tryG x0 (((p.cross r).z / (p.cross q).z)) 0) (fun η => (by kernel_rfl)) (fun _ _ _ h => tryG_ok h) (fun β η S w hS hs hw hG hd => have hl := hG.2.2.2.2.2.2.2.1; ⟨_, (by kernel_rfl), fit_g hf2 (rquo_c hS (dep hd 16 (by kernel_rfl) (by kernel_rfl) : (ratG (η 16) (((p.cross r).z))).p S w) hl.2.2.2 (rl_mono (tl_cross hm hk).2.2 (by omega)) (rl_mono hc.2.2 (by omega)) (num_ne h0))⟩) ?_
  refine hd_run 2 (fun η => (by kernel_rfl)) ?_
  refine h_1 (fun x0 => .one (.ag 3 x0)) (fun x0 => ratG x0 (((p.cross r).z / (p.cross q).z))) (fun η => (by kernel_rfl)) (fun _ _ _ h => ⟨h.ok, rfl⟩) (fun β η S w hS hs hw hG hd => ⟨_, (by kernel_rfl), vmust_c hS (dep hd 20 (by kernel_rfl) (by kernel_rfl) : (tryG (η 20) (((p.cross r).z / (p.cross q).z)) 0).p S w).2⟩) ?_
  refine hd_done (fun η => ((ratG (η 23) (((p.cross r).z / (p.cross q).z))).and ((tryG (η 20) (((p.cross r).z / (p.cross q).z)) 0).and ((ratG (η 16) (((p.cross r).z))).and ((ratsG (η 15) [p.x * r.y, -(p.y * r.x)]).and ((ratG (η 14) ((-(p.y * r.x)))).and ((ratG (η 13) ((p.y * r.x))).and ((ratG (η 6) ((p.x * r.y))).and ((ratG (η_1 23) (((r.cross q).z / (p.cross q).z))).and ((tryG (η_1 20) (((r.cross q).z / (p.cross q).z)) 0).and ((ratG (η_1 16) (((r.cross q).z))).and ((ratsG (η_1 15) [r.x * q.y, -(r.y * q.x)]).and ((ratG (η_1 14) ((-(r.y * q.x)))).and ((ratG (η_1 13) ((r.y * q.x))).and ((ratG (η_1 6) ((r.x * q.y))).and ((trixG l ((p.cross q))).and ((ratG a1 p.x).and ((ratG b1 p.y).and ((ratG c1 p.z).and ((ratG a2 q.x).and ((ratG b2 q.y).and ((ratG c2 q.z).and ((ratG a3 r.x).and ((ratG b3 r.y).and (ratG c3 r.z))))))))))))))))))))))))) (by kernel_rfl) (fun η => (by kernel_rfl)) ?_
  intro η_2
  refine s_drawn 4 ⟨env_ok, hS, noLent⟩ (by kernel_rfl) (by kernel_rfl) (by kernel_rfl) ?_
  refine hd_run 2 (fun η => (by kernel_rfl)) ?_
  refine hd_same ⟨env_ok, hS, noLent⟩ (fun η => (by kernel_rfl)) (fun η => (by kernel_rfl)) ?_
  refine hd_same ⟨env_ok, hS, noLent⟩ (fun η => (by kernel_rfl)) (fun η => (by kernel_rfl)) ?_
  refine hd_done (fun η => ((ratG (η_2 23) (((p.cross r).z / (p.cross q).z))).and ((tryG (η_2 20) (((p.cross r).z / (p.cross q).z)) 0).and ((ratG (η_2 16) (((p.cross r).z))).and ((ratsG (η_2 15) [p.x * r.y, -(p.y * r.x)]).and ((ratG (η_2 14) ((-(p.y * r.x)))).and ((ratG (η_2 13) ((p.y * r.x))).and ((ratG (η_2 6) ((p.x * r.y))).and ((ratG (η_1 23) (((r.cross q).z / (p.cross q).z))).and ((tryG (η_1 20) (((r.cross q).z / (p.cross q).z)) 0).and ((ratG (η_1 16) (((r.cross q).z))).and ((ratsG (η_1 15) [r.x * q.y, -(r.y * q.x)]).and ((ratG (η_1 14) ((-(r.y * q.x)))).and ((ratG (η_1 13) ((r.y * q.x))).and ((ratG (η_1 6) ((r.x * q.y))).and ((trixG l ((p.cross q))).and ((ratG a1 p.x).and ((ratG b1 p.y).and ((ratG c1 p.z).and ((ratG a2 q.x).and ((ratG b2 q.y).and ((ratG c2 q.z).and ((ratG a3 r.x).and ((ratG b3 r.y).and (ratG c3 r.z))))))))))))))))))))))))) (by kernel_rfl) (fun η => (by kernel_rfl)) ?_
  intro η_3
  exact s_ret (.tuple #[η_1 23, η_2 23]) ⟨env_ok, hS, noLent⟩ (by kernel_rfl) rfl (by kernel_rfl) (fun β => (by kernel_rfl)) (fun S w hs hw hG => have n7 := hG.1; have m7 := hG.2.2.2.2.2.2.2.1; ⟨hw, rfl, m7.mono fun k _ hk => hs k hk, n7.mono fun k _ hk => hs k hk⟩)
def PartsC (p q : T3) : Prop := ∀ {S : Nat → Prop} {w : World} {vp vq vr : Value} {r : T3} {m : Nat}, Up S w → TripV S w vp p → TripV S w vq q → TripV S w vr r → tl p m → tl q m → tl r m → m ≤ 400 →
    Gives Tryz.prog 65 [vp, vq, vr] w fun v' w' => Ext w w' ∧ (rrG v' (T3.mPart p q r) (T3.nPart p q r)).p S w'
theorem vparts_z {p q : T3} (h1 : (p.cross q).x = 0) (h2 : (p.cross q).y = 0) (h0 : (p.cross q).z ≠ 0) : PartsC p q := by
  intro S w vp vq vr r m hS hp hq hr hm hn hk hmm
  unfold T3.mPart T3.nPart T3.over1
  simp only [h1, h2, ne_eq, not_true_eq_false, if_false]
  exact vparts_2 hS hp hq hr hm hn hk hmm h1 h2 h0
end Go.Proofs.YtpheooheinfbgaaGreatDoor
end
section
set_option linter.unusedVariables false
set_option linter.unusedSimpArgs false
namespace Go.Proofs.YtpheooheinfbgaaGreatDoor
open Go Go.RowKit
theorem els4 {S : Nat → Prop} {w : World} {a b c d : Value} {p q r s : T3} (h1 : TripV S w a p) (h2 : TripV S w b q) (h3 : TripV S w c r) (h4 : TripV S w d s) : ElsV true 9 triF S w [a, b, c, d] [p, q, r, s] := by
  refine ⟨rfl, fun x hx => ?_, fun i t x hq hx => ?_⟩
  · simp only [List.mem_cons, List.not_mem_nil, or_false] at hx
    rcases hx with rfl | rfl | rfl | rfl
    · exact h1.lies
    · exact h2.lies
    · exact h3.lies
    · exact h4.lies
  · match i with
    | 0 => simp at hq hx; subst hq hx; exact h1
    | 1 => simp at hq hx; subst hq hx; exact h2
    | 2 => simp at hq hx; subst hq hx; exact h3
    | 3 => simp at hq hx; subst hq hx; exact h4
    | i + 4 => simp at hq
theorem mem4 {p q r s : T3} {P : T3 → Prop} (h1 : P p) (h2 : P q) (h3 : P r) (h4 : P s) : ∀ t ∈ [p, q, r, s], P t := by
  intro t ht
  simp only [List.mem_cons, List.not_mem_nil, or_false] at ht
  rcases ht with rfl | rfl | rfl | rfl
  · exact h1
  · exact h2
  · exact h3
  · exact h4
namespace T3
def ratioQ (p q r s : T3) : Rat := if nPart p q s = 0 then 0 else (mPart p q s * nPart p q r) / (mPart p q r * nPart p q s)
end T3
theorem mul_ne {a b : Rat} (ha : a ≠ 0) (hb : b ≠ 0) : a * b ≠ 0 := by
  intro h
  rcases Rat.mul_eq_zero.1 h with h | h
  · exact ha h
  · exact hb h
set_option maxRecDepth 100000 in
set_option maxHeartbeats 2000000 in
theorem vRatio1_c {S : Nat → Prop} {w : World} {u1 u2 u3 u4 : Value} {p q r s : T3} {m : Nat} (hpt : PartsC p q) (ht : Tab w) (hS : Up S w) (o1 : u1.oneCell' = true) (o2 : u2.oneCell' = true) (o3 : u3.oneCell' = true) (o4 : u4.oneCell' = true) (h1 : (triP u1 p).p S w) (h2 : (triP u2 q).p S w) (h3 : (triP u3 r).p S w) (h4 : (triP u4 s).p S w)
    (k1 : tl p m) (k2 : tl q m) (k3 : tl r m) (k4 : tl s m) (hmm : m ≤ 100) (b1 : badE p = 0) (b2 : badE q = 0) (b3 : badE r = 0) (b4 : badE s = 0) (d1 : ¬ T3.Same p q) (d2 : ¬ T3.Same p r) (d3 : ¬ T3.Same q r) (d4 : T3.Flat p q r) (d5 : T3.Flat p q s) (hm0 : T3.mPart p q r ≠ 0) :
    Gives Tryz.prog 63 [u1, u2, u3, u4] w fun v' w' => Ext w w' ∧ RatioV S w' v' (T3.ratioQ p q r s) (T3.nPart p q s = 0) := by
  have rm1 : rl (T3.mPart p q r) (8 * m + 2) := rl_mono (rl_over1 (tl_cross k1 k2) (tl_cross k3 k2) d1) (by omega)
  have rn1 : rl (T3.nPart p q r) (8 * m + 2) := rl_mono (rl_over1 (tl_cross k1 k2) (tl_cross k1 k3) d1) (by omega)
  have rm2 : rl (T3.mPart p q s) (8 * m + 2) := rl_mono (rl_over1 (tl_cross k1 k2) (tl_cross k4 k2) d1) (by omega)
  have rn2 : rl (T3.nPart p q s) (8 * m + 2) := rl_mono (rl_over1 (tl_cross k1 k2) (tl_cross k1 k4) d1) (by omega)
  refine t_gives (E := env) (S0 := S) (G := ((triP u1 p).and ((triP u2 q).and ((triP u3 r).and (triP u4 s))))) (l := [.one (.val u1), .one (.val u2), .one (.val u3), .one (.val u4)]) Tryz.func63 rfl rfl rfl ⟨o1, o2, o3, o4, trivial⟩ rfl ⟨h1, h2, h3, h4⟩ ?_
  refine s_go ⟨env_ok, hS, noLent⟩ (by kernel_rfl) (t_ofM u1 44 9 true (fun x0 => .one (.ag 9 x0)) (fun x0 => triG x0 (p)) (by kernel_rfl) ⟨env_ok, hS, noLent⟩ (fun _ _ _ h => ⟨h.ok, rfl⟩) (fun β S w hM hw hG => have h1 := hG.1; let ⟨y, e1, e2, e3⟩ := h1; ⟨S, y, e1, e2, e3⟩) ?_)
  intro y1
  refine s_go ⟨env_ok, hS, noLent⟩ (by kernel_rfl) (t_ofM u2 44 9 true (fun x0 => .one (.ag 9 x0)) (fun x0 => triG x0 (q)) (by kernel_rfl) ⟨env_ok, hS, noLent⟩ (fun _ _ _ h => ⟨h.ok, rfl⟩) (fun β S w hM hw hG => have h2 := hG.2.2.1; let ⟨y, e1, e2, e3⟩ := h2; ⟨S, y, e1, e2, e3⟩) ?_)
  intro y2
  refine s_go ⟨env_ok, hS, noLent⟩ (by kernel_rfl) (t_ofM u3 44 9 true (fun x0 => .one (.ag 9 x0)) (fun x0 => triG x0 (r)) (by kernel_rfl) ⟨env_ok, hS, noLent⟩ (fun _ _ _ h => ⟨h.ok, rfl⟩) (fun β S w hM hw hG => have h3 := hG.2.2.2.2.1; let ⟨y, e1, e2, e3⟩ := h3; ⟨S, y, e1, e2, e3⟩) ?_)
  intro y3
  refine s_go ⟨env_ok, hS, noLent⟩ (by kernel_rfl) (t_ofM u4 44 9 true (fun x0 => .one (.ag 9 x0)) (fun x0 => triG x0 (s)) (by kernel_rfl) ⟨env_ok, hS, noLent⟩ (fun _ _ _ h => ⟨h.ok, rfl⟩) (fun β S w hM hw hG => have h4 := hG.2.2.2.2.2.2; let ⟨y, e1, e2, e3⟩ := h4; ⟨S, y, e1, e2, e3⟩) ?_)
  intro y4
  refine s_KM (.und) ⟨env_ok, hS, noLent⟩ (by kernel_rfl) (by kernel_rfl) (svB_ok rfl) rfl (fun β S w hS hM hs hw hG => have x4 := hG.1; have x3 := hG.2.1; have x2 := hG.2.2.1; have x1 := hG.2.2.2.1; ⟨_, (by kernel_rfl), vpoints_c (ht.to hw) (up_row hS) (blk_seq (l := [p, q, r, s]) 1 44 [y1, y2, y3, y4] hM (by kernel_rfl) (els4 x1 x2 x3 x4) (show 4 ≤ maxLen by decide)) (mem4 (tl_up k1 (by omega)) (tl_up k2 (by omega)) (tl_up k3 (by omega)) (tl_up k4 (by omega))) (mem4 b1 b2 b3 b4)⟩) ?_
  refine s_go ⟨env_ok, hS, noLent⟩ (by kernel_rfl) (t_ofM u1 44 9 true (fun x0 => .one (.ag 9 x0)) (fun x0 => triG x0 (p)) (by kernel_rfl) ⟨env_ok, hS, noLent⟩ (fun _ _ _ h => ⟨h.ok, rfl⟩) (fun β S w hM hw hG => have h1 := hG.2.2.2.2.1; let ⟨y, e1, e2, e3⟩ := h1; ⟨S, y, e1, e2, e3⟩) ?_)
  intro t1
  refine s_go ⟨env_ok, hS, noLent⟩ (by kernel_rfl) (t_ofM u2 44 9 true (fun x0 => .one (.ag 9 x0)) (fun x0 => triG x0 (q)) (by kernel_rfl) ⟨env_ok, hS, noLent⟩ (fun _ _ _ h => ⟨h.ok, rfl⟩) (fun β S w hM hw hG => have h2 := hG.2.2.2.2.2.2.1; let ⟨y, e1, e2, e3⟩ := h2; ⟨S, y, e1, e2, e3⟩) ?_)
  intro t2
  refine s_go ⟨env_ok, hS, noLent⟩ (by kernel_rfl) (t_ofM u3 44 9 true (fun x0 => .one (.ag 9 x0)) (fun x0 => triG x0 (r)) (by kernel_rfl) ⟨env_ok, hS, noLent⟩ (fun _ _ _ h => ⟨h.ok, rfl⟩) (fun β S w hM hw hG => have h3 := hG.2.2.2.2.2.2.2.2.1; let ⟨y, e1, e2, e3⟩ := h3; ⟨S, y, e1, e2, e3⟩) ?_)
  intro t3
  refine s_K (.und) ⟨env_ok, hS, noLent⟩ (by kernel_rfl) (by kernel_rfl) (svB_ok rfl) rfl (fun β S w hS hs hw hG => have z3 := hG.1; have z2 := hG.2.1; have z1 := hG.2.2.1; ⟨_, (by kernel_rfl), vlined_c hS z1 z2 z3 k1 k2 k3 (by omega) d1 d2 d3 d4⟩) ?_
  refine s_go ⟨env_ok, hS, noLent⟩ (by kernel_rfl) (t_ofM u1 44 9 true (fun x0 => .one (.ag 9 x0)) (fun x0 => triG x0 (p)) (by kernel_rfl) ⟨env_ok, hS, noLent⟩ (fun _ _ _ h => ⟨h.ok, rfl⟩) (fun β S w hM hw hG => have h1 := hG.2.2.2.2.2.2.2.1; let ⟨y, e1, e2, e3⟩ := h1; ⟨S, y, e1, e2, e3⟩) ?_)
  intro t4
  refine s_go ⟨env_ok, hS, noLent⟩ (by kernel_rfl) (t_ofM u2 44 9 true (fun x0 => .one (.ag 9 x0)) (fun x0 => triG x0 (q)) (by kernel_rfl) ⟨env_ok, hS, noLent⟩ (fun _ _ _ h => ⟨h.ok, rfl⟩) (fun β S w hM hw hG => have h2 := hG.2.2.2.2.2.2.2.2.2.1; let ⟨y, e1, e2, e3⟩ := h2; ⟨S, y, e1, e2, e3⟩) ?_)
  intro t5
  refine s_go ⟨env_ok, hS, noLent⟩ (by kernel_rfl) (t_ofM u4 44 9 true (fun x0 => .one (.ag 9 x0)) (fun x0 => triG x0 (s)) (by kernel_rfl) ⟨env_ok, hS, noLent⟩ (fun _ _ _ h => ⟨h.ok, rfl⟩) (fun β S w hM hw hG => have h4 := hG.2.2.2.2.2.2.2.2.2.2.2.2; let ⟨y, e1, e2, e3⟩ := h4; ⟨S, y, e1, e2, e3⟩) ?_)
  intro t6
  refine s_K (.one (.tp (T3.Flat p q s))) ⟨env_ok, hS, noLent⟩ (by kernel_rfl) (by kernel_rfl) (svB_ok rfl) rfl (fun β S w hS hs hw hG => have z6 := hG.1; have z5 := hG.2.1; have z4 := hG.2.2.1; ⟨_, (by kernel_rfl), vflat_c hS z4 z5 z6 k1 k2 k4 (by omega)⟩) ?_
  refine s_no (p := ¬ T3.Flat p q s) ⟨env_ok, hS, noLent⟩ (by kernel_rfl) (by kernel_rfl) (by kernel_rfl) (fun h => h d5) ?_
  refine s_go ⟨env_ok, hS, noLent⟩ (by kernel_rfl) (t_ofM u1 44 9 true (fun x0 => .one (.ag 9 x0)) (fun x0 => triG x0 (p)) (by kernel_rfl) ⟨env_ok, hS, noLent⟩ (fun _ _ _ h => ⟨h.ok, rfl⟩) (fun β S w hM hw hG => have h1 := hG.2.2.2.2.2.2.2.2.2.2.1; let ⟨y, e1, e2, e3⟩ := h1; ⟨S, y, e1, e2, e3⟩) ?_)
  intro t7
  refine s_go ⟨env_ok, hS, noLent⟩ (by kernel_rfl) (t_ofM u2 44 9 true (fun x0 => .one (.ag 9 x0)) (fun x0 => triG x0 (q)) (by kernel_rfl) ⟨env_ok, hS, noLent⟩ (fun _ _ _ h => ⟨h.ok, rfl⟩) (fun β S w hM hw hG => have h2 := hG.2.2.2.2.2.2.2.2.2.2.2.2.1; let ⟨y, e1, e2, e3⟩ := h2; ⟨S, y, e1, e2, e3⟩) ?_)
  intro t8
  refine s_go ⟨env_ok, hS, noLent⟩ (by kernel_rfl) (t_ofM u3 44 9 true (fun x0 => .one (.ag 9 x0)) (fun x0 => triG x0 (r)) (by kernel_rfl) ⟨env_ok, hS, noLent⟩ (fun _ _ _ h => ⟨h.ok, rfl⟩) (fun β S w hM hw hG => have h3 := hG.2.2.2.2.2.2.2.2.2.2.2.2.2.2.1; let ⟨y, e1, e2, e3⟩ := h3; ⟨S, y, e1, e2, e3⟩) ?_)
  intro t9
  refine s_1 (fun x0 => pr (.ag 3 (tupN x0 0)) (.ag 3 (tupN x0 1))) (fun x0 => rrG x0 ((T3.mPart p q r)) ((T3.nPart p q r))) ⟨env_ok, hS, noLent⟩ (by kernel_rfl) (by kernel_rfl) (fun _ _ _ h => rrG_ok h) (fun β S w hS hs hw hG => have z9 := hG.1; have z8 := hG.2.1; have z7 := hG.2.2.1; ⟨_, (by kernel_rfl), hpt hS z7 z8 z9 k1 k2 k3 (by omega)⟩) ?_
  intro a1
  refine s_go ⟨env_ok, hS, noLent⟩ (by kernel_rfl) (t_ofM u1 44 9 true (fun x0 => .one (.ag 9 x0)) (fun x0 => triG x0 (p)) (by kernel_rfl) ⟨env_ok, hS, noLent⟩ (fun _ _ _ h => ⟨h.ok, rfl⟩) (fun β S w hM hw hG => have h1 := hG.2.2.2.2.2.2.2.2.2.2.2.2.2.2.1; let ⟨y, e1, e2, e3⟩ := h1; ⟨S, y, e1, e2, e3⟩) ?_)
  intro ta
  refine s_go ⟨env_ok, hS, noLent⟩ (by kernel_rfl) (t_ofM u2 44 9 true (fun x0 => .one (.ag 9 x0)) (fun x0 => triG x0 (q)) (by kernel_rfl) ⟨env_ok, hS, noLent⟩ (fun _ _ _ h => ⟨h.ok, rfl⟩) (fun β S w hM hw hG => have h2 := hG.2.2.2.2.2.2.2.2.2.2.2.2.2.2.2.2.1; let ⟨y, e1, e2, e3⟩ := h2; ⟨S, y, e1, e2, e3⟩) ?_)
  intro tb
  refine s_go ⟨env_ok, hS, noLent⟩ (by kernel_rfl) (t_ofM u4 44 9 true (fun x0 => .one (.ag 9 x0)) (fun x0 => triG x0 (s)) (by kernel_rfl) ⟨env_ok, hS, noLent⟩ (fun _ _ _ h => ⟨h.ok, rfl⟩) (fun β S w hM hw hG => have h4 := hG.2.2.2.2.2.2.2.2.2.2.2.2.2.2.2.2.2.2.2; let ⟨y, e1, e2, e3⟩ := h4; ⟨S, y, e1, e2, e3⟩) ?_)
  intro tc
  refine s_1 (fun x0 => pr (.ag 3 (tupN x0 0)) (.ag 3 (tupN x0 1))) (fun x0 => rrG x0 ((T3.mPart p q s)) ((T3.nPart p q s))) ⟨env_ok, hS, noLent⟩ (by kernel_rfl) (by kernel_rfl) (fun _ _ _ h => rrG_ok h) (fun β S w hS hs hw hG => have zc := hG.1; have zb := hG.2.1; have za := hG.2.2.1; ⟨_, (by kernel_rfl), hpt hS za zb zc k1 k2 k4 (by omega)⟩) ?_
  intro a2
  refine s_K (.one (.tp (T3.nPart p q s = 0))) ⟨env_ok, hS, noLent⟩ (by kernel_rfl) (by kernel_rfl) (svB_ok rfl) rfl (fun β S w hS hs hw hG => have hab := hG.1; ⟨_, (by kernel_rfl), visZero_c hS hab.2.2⟩) ?_
  refine s_if (p := T3.nPart p q s = 0) ⟨env_ok, hS, noLent⟩ (by kernel_rfl) (by kernel_rfl) (by kernel_rfl) (fun hb => ?_) (fun hb => ?_)
  · exact s_ret (.agg #[.bool false, .slice none 0 0, .slice none 0 0, .bool true]) ⟨env_ok, hS, noLent⟩ (by kernel_rfl) rfl (by kernel_rfl) (fun β => (by kernel_rfl)) (fun S w hs hw hG => ⟨hw, .agg #[.bool false, .slice none 0 0, .slice none 0 0], by rw [← tst_true hb]; rfl, by unfold T3.ratioQ; rw [if_pos hb]; exact zero_rat⟩)
  · have hmb := mul_ne hm0 hb
    have hf : Fits ((T3.mPart p q s * T3.nPart p q r) / (T3.mPart p q r * T3.nPart p q s)) := fits_rl (rl_div (rl_mul rm2 rn1) (rl_mul rm1 rn2) (num_ne hmb)) (by omega)
    refine s_drawn 10 ⟨env_ok, hS, noLent⟩ (by kernel_rfl) (by kernel_rfl) (by kernel_rfl) ?_
    refine hd_run 2 (fun η => (by kernel_rfl)) ?_
    refine h_1 (fun x0 => .one (.ag 3 x0)) (fun x0 => ratG x0 ((T3.mPart p q s * T3.nPart p q r))) (fun η => (by kernel_rfl)) (fun _ _ _ h => ⟨h.ok, rfl⟩) (fun β η S w hS hs hw hG hd => have hab := hG.1; have hmn := hG.2.2.2.2.1; ⟨_, (by kernel_rfl), vtimes_c hS hab.2.1 hmn.2.2 rm2 rn1 (by omega)⟩) ?_
    refine hd_run 2 (fun η => (by kernel_rfl)) ?_
    refine h_1 (fun x0 => .one (.ag 3 x0)) (fun x0 => ratG x0 ((T3.mPart p q r * T3.nPart p q s))) (fun η => (by kernel_rfl)) (fun _ _ _ h => ⟨h.ok, rfl⟩) (fun β η S w hS hs hw hG hd => have hab := hG.1; have hmn := hG.2.2.2.2.1; ⟨_, (by kernel_rfl), vtimes_c hS hmn.2.1 hab.2.2 rm1 rn2 (by omega)⟩) ?_
    refine h_1 (fun x0 => pr (.ag 3 (tupAt x0)) (.lit .i64 0)) (fun x0 => tryG x0 (((T3.mPart p q s * T3.nPart p q r) / (T3.mPart p q r * T3.nPart p q s))) 0) (fun η => (by kernel_rfl)) (fun _ _ _ h => tryG_ok h) (fun β η S w hS hs hw hG hd => ⟨_, (by kernel_rfl), fit_g hf (rquo_c hS (dep hd 2 (by kernel_rfl) (by kernel_rfl) : (ratG (η 2) ((T3.mPart p q s * T3.nPart p q r))).p S w) (dep hd 5 (by kernel_rfl) (by kernel_rfl) : (ratG (η 5) ((T3.mPart p q r * T3.nPart p q s))).p S w) (rl_mono (rl_mul rm2 rn1) (by omega)) (rl_mono (rl_mul rm1 rn2) (by omega)) (num_ne hmb))⟩) ?_
    refine hd_run 2 (fun η => (by kernel_rfl)) ?_
    refine h_1 (fun x0 => .one (.ag 3 x0)) (fun x0 => ratG x0 (((T3.mPart p q s * T3.nPart p q r) / (T3.mPart p q r * T3.nPart p q s)))) (fun η => (by kernel_rfl)) (fun _ _ _ h => ⟨h.ok, rfl⟩) (fun β η S w hS hs hw hG hd => ⟨_, (by kernel_rfl), vmust_c hS (dep hd 6 (by kernel_rfl) (by kernel_rfl) : (tryG (η 6) (((T3.mPart p q s * T3.nPart p q r) / (T3.mPart p q r * T3.nPart p q s))) 0).p S w).2⟩) ?_
    refine hd_done (fun η => ((ratG (η 9) (((T3.mPart p q s * T3.nPart p q r) / (T3.mPart p q r * T3.nPart p q s)))).and ((tryG (η 6) (((T3.mPart p q s * T3.nPart p q r) / (T3.mPart p q r * T3.nPart p q s))) 0).and ((ratG (η 5) ((T3.mPart p q r * T3.nPart p q s))).and ((ratG (η 2) ((T3.mPart p q s * T3.nPart p q r))).and ((rrG a2 ((T3.mPart p q s)) ((T3.nPart p q s))).and ((triG tc (s)).and ((triG tb (q)).and ((triG ta (p)).and ((rrG a1 ((T3.mPart p q r)) ((T3.nPart p q r))).and ((triG t9 (r)).and ((triG t8 (q)).and ((triG t7 (p)).and ((triG t6 (s)).and ((triG t5 (q)).and ((triG t4 (p)).and ((triG t3 (r)).and ((triG t2 (q)).and ((triG t1 (p)).and ((triG y4 (s)).and ((triG y3 (r)).and ((triG y2 (q)).and ((triG y1 (p)).and ((triP u1 p).and ((triP u2 q).and ((triP u3 r).and (triP u4 s))))))))))))))))))))))))))) (by kernel_rfl) (fun η => (by kernel_rfl)) ?_
    intro η_1
    exact s_ret ((SV.agg [.ag 3 (η_1 9), .bb false]).den (fun _ => 0)) ⟨env_ok, hS, noLent⟩ (by kernel_rfl) rfl (by kernel_rfl) (fun β => (by kernel_rfl)) (fun S w hs hw hG => have g4 := hG.1; ⟨hw, η_1 9, by rw [← tst_false hb]; rfl, by unfold T3.ratioQ; rw [if_neg hb]; exact g4.mono fun k _ hk => hs k hk⟩)
end Go.Proofs.YtpheooheinfbgaaGreatDoor
end
section
set_option linter.unusedVariables false
set_option linter.unusedSimpArgs false
namespace Go.Proofs.YtpheooheinfbgaaGreatDoor
open Go Go.RowKit
theorem TripV.to {S : Nat → Prop} {w w' : World} {v : Value} {t : T3} (h : TripV S w v t) (k : Ext w w') : TripV S w' v t := h.keep (.of k)
theorem box_triP {S : Nat → Prop} {w : World} {g : Nat} {v : Value} {t : T3} {T : TypeId} {us : List Value} (hS : S g) (hb : Blk w g T us) (hv : TripV S w v t) (e : v = .agg us.toArray) : (triP (.pointer (some ⟨g, 0, none⟩)) t).p S w := by
  refine ⟨v, hv.lies, ⟨g, 0, us.toArray, T, (0, 0), rfl, hS, hb, by rw [e]; simp [Value.cells], ?_⟩, hv⟩
  rw [e]
  simp [Value.cells]
set_option maxRecDepth 100000 in
set_option maxHeartbeats 1000000 in
theorem vRatio_c {S : Nat → Prop} {w : World} {vp vq vr vs : Value} {p q r s : T3} {m : Nat} (hpt : PartsC p q) (ht : Tab w) (hS : Up S w) (hp : TripV S w vp p) (hq : TripV S w vq q) (hr : TripV S w vr r) (hs : TripV S w vs s)
    (k1 : tl p m) (k2 : tl q m) (k3 : tl r m) (k4 : tl s m) (hmm : m ≤ 100) (b1 : badE p = 0) (b2 : badE q = 0) (b3 : badE r = 0) (b4 : badE s = 0) (d1 : ¬ T3.Same p q) (d2 : ¬ T3.Same p r) (d3 : ¬ T3.Same q r) (d4 : T3.Flat p q r) (d5 : T3.Flat p q s) (hm0 : T3.mPart p q r ≠ 0) :
    Gives Tryz.prog 35 [vp, vq, vr, vs] w fun v' w' => Ext w w' ∧ ∃ x, v' = .tuple #[x, .bool (tst (T3.nPart p q s = 0)), .int .i64 0] ∧ RatV S w' x (T3.ratioQ p q r s) := by
  obtain ⟨us1, e1, l1, n1⟩ := hp.ok
  obtain ⟨us2, e2, l2, n2⟩ := hq.ok
  obtain ⟨us3, e3, l3, n3⟩ := hr.ok
  obtain ⟨us4, e4, l4, n4⟩ := hs.ok
  refine gives_of Tryz.func35 rfl rfl rfl ?_
  repeat (first | refine wp_seq_region ?_ | refine wp_region ?_)
  refine r_box (v := vp) (cs := us1) rfl (by rw [e1]; rfl) ?_
  intro w1 g1 x1 hg1 hgs1
  have y1 := hg1.lt
  refine r_box (v := vq) (cs := us2) rfl (by rw [e2]; rfl) ?_
  intro w2 g2 x2 hg2 hgs2
  have y2 := hg2.lt
  refine r_box (v := vr) (cs := us3) rfl (by rw [e3]; rfl) ?_
  intro w3 g3 x3 hg3 hgs3
  have y3 := hg3.lt
  refine r_box (v := vs) (cs := us4) rfl (by rw [e4]; rfl) ?_
  intro w4 g4 x4 hg4 hgs4
  have y4 := hg4.lt
  refine r_alloc (cs := [.bool false, .slice none 0 0, .slice none 0 0]) rfl ?_
  intro w5 g5 x5 hg5 hgs5
  have z1 := x1.size
  have z2 := x2.size
  have z3 := x3.size
  have z4 := x4.size
  have z5 := x5.size
  have K := (((x1.trans x2).trans x3).trans x4).trans x5
  have hl5 := hg5.lt
  replace hg1 := (((hg1.to x2).to x3).to x4).to x5
  replace hg2 := ((hg2.to x3).to x4).to x5
  replace hg3 := (hg3.to x4).to x5
  replace hg4 := hg4.to x5
  have hS2 : Up (fun k => S k ∧ k ≠ g5) w5 := fun i hi => ⟨hS i (by omega), by omega⟩
  have up : ∀ {v : Value} {t : T3}, TripV S w v t → TripV (fun k => S k ∧ k ≠ g5) w5 v t := fun h => (h.mono (S' := fun k => S k ∧ k ≠ g5) fun i hi hs => ⟨hs, by omega⟩).to K
  have t1 := box_triP (S := fun k => S k ∧ k ≠ g5) ⟨hS g1 hgs1, by omega⟩ hg1 (up hp) e1
  have t2 := box_triP (S := fun k => S k ∧ k ≠ g5) ⟨hS g2 (by omega), by omega⟩ hg2 (up hq) e2
  have t3 := box_triP (S := fun k => S k ∧ k ≠ g5) ⟨hS g3 (by omega), by omega⟩ hg3 (up hr) e3
  have t4 := box_triP (S := fun k => S k ∧ k ≠ g5) ⟨hS g4 (by omega), by omega⟩ hg4 (up hs) e4
  have key : ∀ S' w', Up S' w' → Ext w5 w' → (∀ k, S' k → S k ∧ k ≠ g5) → (∀ k, k < w5.heap.size → S k ∧ k ≠ g5 → S' k) → GivesE Tryz.prog 63 [.pointer (some ⟨g1, 0, none⟩), .pointer (some ⟨g2, 0, none⟩), .pointer (some ⟨g3, 0, none⟩), .pointer (some ⟨g4, 0, none⟩)] w' (fun v w'' => Ext w' w'' ∧ RatioV S' w'' v (T3.ratioQ p q r s) (T3.nPart p q s = 0) ∧ True) fun ch w'' => ch = failE 0 ∧ Ext w' w'' ∧ False := by
    intro S' w' hS' k' _ hs'
    have f : ∀ {u : Value} {t : T3}, (triP u t).p (fun k => S k ∧ k ≠ g5) w5 → (triP u t).p S' w' := fun {u t} h => (triP u t).keep ((triP u t).mono h hs') (.of k')
    exact Gives.toE ((vRatio1_c hpt (ht.to (K.trans k')) hS' rfl rfl rfl rfl (f t1) (f t2) (f t3) (f t4) k1 k2 k3 k4 hmm b1 b2 b3 b4 d1 d2 d3 d4 d5 hm0).mono fun v w'' h => ⟨h.1, h.2, trivial⟩)
  repeat (first | refine r_func ?_ | refine wp_seq_region ?_ | refine wp_region ?_ | refine r_assign (by conv => (lhs; whnf)) ?_ | refine r_nil ?_)
  refine r_call (qattempt_c (F := 63) (cap := [.pointer (some ⟨g1, 0, none⟩), .pointer (some ⟨g2, 0, none⟩), .pointer (some ⟨g3, 0, none⟩), .pointer (some ⟨g4, 0, none⟩)]) hS2 key) rfl ?_
  rintro v6 w6 ⟨x6, hh⟩
  obtain ⟨x, rfl, hx, _⟩ := hh.resolve_right fun h => h.2
  obtain ⟨y, rfl, hy⟩ := hx
  obtain ⟨ys, ey, ly, ny⟩ := hy.ok
  subst ey
  obtain ⟨c1, c2, c3, rfl⟩ : ∃ c1 c2 c3, ys = [c1, c2, c3] := by
    match ys, ly with
    | [c1, c2, c3], _ => exact ⟨c1, c2, c3, rfl⟩
  replace hg5 := hg5.to x6
  have z6 := x6.size
  repeat (first | refine r_move (by conv => (lhs; whnf)) ?_ | refine r_extract rfl rfl ?_)
  refine r_alloc (cs := zero4r) rfl ?_
  intro w7 g7 x7 hg7 hgs7
  replace hg5 := hg5.to x7
  refine r_store_all (us := [c1, c2, c3, .bool (tst (T3.nPart p q s = 0))]) rfl (by conv => (lhs; whnf)) rfl rfl hg7 rfl (fun v hv => by
    simp only [List.mem_cons, List.not_mem_nil, or_false] at hv
    rcases hv with rfl | rfl | rfl | rfl
    · exact ny _ (by simp)
    · exact ny _ (by simp)
    · exact ny _ (by simp)
    · rfl) ?_
  intro w8 x8 hg8
  have hne : g7 ≠ g5 := by omega
  replace hg5 := hg5.wr x8 (fun e => hne e.symm)
  have hy6 := hy.mono (S' := fun k => (S k ∧ k ≠ g5) ∧ k < w6.heap.size) (fun i hi h => ⟨h, hi⟩)
  have hy8 : RatV (fun k => (S k ∧ k ≠ g5) ∧ k < w6.heap.size) w8 (.agg #[c1, c2, c3]) (T3.ratioQ p q r s) := (hy6.keep (.of x7)).keep (x8.mono fun i hi => by have := hi.2; omega)
  repeat (first | refine wp_seq_region ?_ | refine r_assign (by conv => (lhs; whnf)) ?_ | refine r_nil ?_)
  refine wp_drawnR (R := OneW g5 42 [.bool false, .slice none 0 0, .slice none 0 0] [c1, c2, c3]) 7 OneW.trans OneW.drew (by kernel_rfl) (by kernel_rfl) ?_
  apply ob_stepR
  · intro x w1 k1 hd
    refine r_field rfl ?_
    refine r_nil ?_
    exact ob_eqR OneW.refl
  apply ob_stepR
  · intro x w1 k1 hd
    refine r_load_part rfl (hg8.wr k1.1 hne) rfl rfl ?_
    refine r_nil ?_
    exact ob_eqR OneW.refl
  apply ob_stepR
  · intro x w1 k1 hd
    refine r_field rfl ?_
    refine r_nil ?_
    exact ob_eqR OneW.refl
  apply ob_stepR
  · intro x w1 k1 hd
    refine r_load_blk rfl (hg8.wr k1.1 hne) rfl ?_
    refine r_nil ?_
    exact ob_eqR OneW.refl
  apply ob_stepR
  · intro x w1 k1 hd
    refine r_move rfl ?_
    refine r_nil ?_
    exact ob_eqR OneW.refl
  refine ob_stepR (e := EntR.of (fun v w => Blk w g5 42 [c1, c2, c3]) (fun v w w' h k => k.2.2 h)) ?_ ?_
  · intro x w1 k1 hd
    rcases k1.2.1 (.inl hg5) with hgx | hgx
    · refine r_store_all (us := [c1, c2, c3]) rfl (by conv => (lhs; whnf)) rfl rfl hgx rfl ny ?_
      intro w12 k12 hg12
      exact r_nil (ob_doneR (OneW.wrote k12 hg12) hg12)
    · refine r_store_all (us := [c1, c2, c3]) rfl (by conv => (lhs; whnf)) rfl rfl hgx rfl ny ?_
      intro w12 k12 hg12
      exact r_nil (ob_doneR (OneW.wrote k12 hg12) hg12)
  apply ob_stepR
  · intro x w1 k1 hd
    refine r_assign rfl ?_
    refine r_nil ?_
    exact ob_eqR OneW.refl
  refine ob_nilR (ob_endR ?_)
  intro x w12 k12 hall
  have h14 := hall.2.1
  repeat (first | refine r_assign (by conv => (lhs; whnf)) ?_ | refine r_nil ?_ | refine q_then ?_ | refine wp_ret ?_)
  refine end3 rfl (resV_agg (by conv => (lhs; whnf)) h14 rfl) (resV_tmp (by conv => (lhs; whnf))) (resV_tmp (by conv => (lhs; whnf))) ⟨?_, _, rfl, ?_⟩
  · exact ((Keeps.past ((K.trans x6).trans x7) x8 (by omega)).past k12.1 (by omega))
  · exact (hy8.keep (k12.1.mono fun i hi => hi.1.2)).mono fun i _ hi => hi.1.1
end Go.Proofs.YtpheooheinfbgaaGreatDoor
end
