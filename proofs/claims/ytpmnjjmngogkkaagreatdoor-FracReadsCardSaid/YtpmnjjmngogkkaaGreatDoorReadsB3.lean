/- Try Vec Vec2 Rdq New Fits StrR Parse RefS Form Read Shelf2 IsDig IParse Cut RParse One Chk Take Ref7 Shelf3 -/
import Derived.Test.YtpmnjjmngogkkaaGreatDoorReadsB2
import Derived.Test.YtpmnjjmngogkkaaGreatDoorReadsB1
import Derived.Laws.IdiomStrings
import Derived.Shelf.Strings.Builder1
import Derived.Shelf.Strings.Builder2
import Derived.Shelf.Strings.Trim
import Derived.Shelf.Small.Utf8
import Derived.Shelf.Small.Strs
import Derived.Shelf.Small.Wraps
import Derived.Shelf.Strings.BuilderF
import Derived.Shelf.Strings.BuilderK
import Derived.Shelf.Strings.Builder2Cap
import Derived.Shelf.Strconv.Atoi
import Derived.Shelf.Strconv.Itoa0
import Derived.Shelf.Strconv.Itoa1
import Derived.Shelf.LaysM
import Derived.Shelf.Strconv.Itoa2
import Derived.Shelf.Strconv.Itoa3
import Derived.Shelf.Strconv.AtoiErrFast
import Derived.Shelf.Strconv.ParseIntEmpty
import Derived.Shelf.Strconv.AtoiFail
import Derived.Shelf.Strconv.Clone
import Derived.Shelf.Strconv.SyntaxError
import Derived.Shelf.LaysC
import Derived.Shelf.Strconv.ToError
import Derived.Shelf.Strconv.AtoiErr
import Derived.Shelf.Strconv.ErrVar
import Derived.Shelf.Strconv.Lower
import Derived.Shelf.Strconv.ParseUint10
import Derived.Shelf.Strconv.ParseUint10Empty
import Derived.Shelf.Strconv.ParseUint10Any
import Derived.Shelf.Strconv.ParseInt10
import Derived.Shelf.Strconv.AtoiLong
import Derived.Shelf.Strconv.AtoiInnerAll
import Derived.Shelf.Strconv.RangeError
import Derived.Shelf.Strconv.ToErrorRange
import Derived.Shelf.Strconv.AtoiAll
import Derived.Shelf.Strconv.ErrVarAll
import Derived.Shelf.Strconv.ParseUintEmpty
import Derived.Shelf.Strconv.ParseUint10b64
import Derived.Shelf.Strconv.ParseUint10b32
import Derived.Shelf.Strconv.ParseUint10b16
import Derived.Shelf.Strconv.ParseUint10b8
import Derived.Shelf.Strconv.ParseUint10At
import Derived.Shelf.Strconv.ParseInt10At64
import Derived.Shelf.Strconv.ParseInt10At32
import Derived.Shelf.Strconv.ParseInt10At16
import Derived.Shelf.Strconv.ParseInt10At8
import Derived.Shelf.Strconv.ParseInt10All
import Derived.Shelf.Strconv.ParseIntPublic10
import Derived.Shelf.Strconv.ErrVarParseInt
import Derived.Shelf.Strings.Search1
import Derived.Shelf.Strings.Search2
import Derived.Shelf.Strings.Cut
import Derived.Shelf.Strings.Shaped
import Derived.Shelf.Strings.Prefix
import Derived.Shelf.Unicode.Decode
import Derived.Shelf.Strings.Runes
import Derived.Shelf.Strings.AsciiSet
import Derived.Shelf.Bits.Mul64
import Derived.Shelf.Strings.Repeat
import Derived.Shelf.Unicode.DecodeSlow
import Derived.Shelf.Unicode.DecodeAny
import Derived.Shelf.Unicode.DecodeLast
import Derived.Shelf.Strings.BuilderCap
import Derived.Test.YtpmnjjmngogkkaaGreatDoorProg
import Derived.Shelf.Strings.SlTrimAscii
import Derived.Lib.IndexLaws
section
set_option linter.unusedVariables false
set_option linter.unusedSimpArgs false
namespace Go.Proofs.YtpmnjjmngogkkaaGreatDoor
open Go Go.RowKit
theorem GivesD.mono {P : Program} {f : FuncId} {args : List Value} {u : FrameMode} {w : World} {Φ Φ' : FrameMode → World → Prop} (h : GivesD P f args u w Φ) (k : ∀ u' w', Φ u' w' → Φ' u' w') : GivesD P f args u w Φ' :=
  CallsD.mono h fun e u' w' ⟨he, hp⟩ => ⟨he, k _ _ hp⟩
/-- v and e are q, or 0 and the error. -/
def Tried (S : Nat → Prop) (w : World) (v : Value) (q : Rat) : Prop :=
  ∃ r e, v = .tuple #[r, .int .i64 e] ∧ (Fits q ∧ e = 0 ∧ RatV S w r q ∨ ¬ Fits q ∧ e = 11 ∧ RatV S w r 0)
theorem zero_rat {S : Nat → Prop} {w : World} : RatV S w (.agg #[.bool false, .slice none 0 0, .slice none 0 0]) 0 := ⟨_, _, by rw [tst_false (by decide)], .nil, .nil⟩
theorem rattempt_c {S : Nat → Prop} {w : World} {v : Value} {q : Rat} (hS : Up S w) (h : RatV S w v q) :
    Gives Tryz.prog 104 [.func (.func 106) #[v] #[]] w fun v' w' => Ext w w' ∧ Tried S w' v' q := by
  refine gives_of_defer Tryz.func104 rfl rfl rfl ?_
  refine wpD_seq ?_
  repeat (first | refine wp_region ?_)
  refine r_alloc (cs := [.bool false, .slice none 0 0, .slice none 0 0]) rfl ?_
  intro w1 g1 k1 hg1 hgs1
  skip
  refine r_alloc (cs := [.int .i64 0]) rfl ?_
  intro w2 g2 k2 hg2 hgs2
  have hgl := hg1.lt
  replace hg1 := hg1.to k2
  have k := k1.trans k2
  have hk1 := k1.size
  repeat (first | refine r_nil ?_ | refine q_then ?_)
  refine wpD_seq_defer ?_
  refine wpD_end ?_ (fun e a ρ w hm hq => defQ_end hm hq)
  repeat (first | refine wp_seq_region ?_ | refine wp_region ?_ | refine r_move (by conv => (lhs; whnf)) ?_)
  refine r_callvE (first := [v]) (cap := []) rfl (rkept_c (hS.to k) (h.to k)) rfl ?_ ?_
  · rintro v3 w3 ⟨rfl, k3, hf⟩
    have h3 := h.to (k.trans k3)
    obtain ⟨m, b, hv, hm, hb⟩ := h3
    skip
    refine r_store3 rfl hv (hg1.to k3) rfl rfl hm.one hb.one ?_
    intro w4 k4 hg4
    have hg24 := (hg2.to k3).wr k4 (by omega)
    refine r_store (u := .int .i64 0) rfl rfl hg24 (show 0 < 1 by decide) rfl ?_
    intro w5 k5 hg5
    have hg45 := hg4.wr k5 (by omega)
    repeat (first | refine r_nil ?_ | refine q_then ?_ | refine wp_ret ?_)
    refine rcatch_idle.mono ?_
    rintro u' w' ⟨rfl, rfl⟩
    refine ⟨rfl, [.agg #[.bool (tst (q.num < 0)), m, b], .int .i64 0], ⟨_, _, resV_agg (by conv => (lhs; whnf)) hg45 rfl, ⟨_, _, resV_one (by conv => (lhs; whnf)) hg5, rfl, rfl⟩, rfl⟩, ?_⟩
    exact ⟨((Keeps.past (k.trans k3) k4 (by omega)).past k5 (by omega)), _, _, rfl, .inl ⟨hf, rfl, m, b, rfl, (hm.wrT k4 (hg1.to k3) (by decide)).wrT k5 hg24 (by decide), (hb.wrT k4 (hg1.to k3) (by decide)).wrT k5 hg24 (by decide)⟩⟩
  · rintro ch w3 ⟨rfl, k3, hf⟩
    refine q_then_panic ?_
    refine (rcatch_big (hg1.to k3) rfl (hg2.to k3)).mono ?_
    rintro u' w' ⟨hu, k4, h1, h2⟩
    refine ⟨hu, [.agg #[.bool false, .slice none 0 0, .slice none 0 0], .int .i64 11], ⟨_, _, resV_agg (by conv => (lhs; whnf)) h1 rfl, ⟨_, _, resV_one (by conv => (lhs; whnf)) h2, rfl, rfl⟩, rfl⟩, ?_⟩
    exact ⟨Keeps.later (k.trans k3) k4 (fun i hi _ => ⟨by omega, by omega⟩), _, _, rfl, .inr ⟨hf, rfl, zero_rat⟩⟩
def ITried (S : Nat → Prop) (w : World) (v : Value) (z : Int) : Prop :=
  ∃ r e, v = .tuple #[r, .int .i64 e] ∧ (z.natAbs < Big ∧ e = 0 ∧ IntV S 127 .u32 w r z ∨ ¬ z.natAbs < Big ∧ e = 11 ∧ IntV S 127 .u32 w r 0)
theorem zero_int {S : Nat → Prop} {w : World} : IntV S 127 .u32 w (.agg #[.bool false, .slice none 0 0]) 0 := ⟨_, by rw [tst_false (by decide)], .nil⟩
theorem iattempt_c {S : Nat → Prop} {w : World} {v : Value} {q : Int} (hS : Up S w) (h : IntV S 127 .u32 w v q) :
    Gives Tryz.prog 89 [.func (.func 91) #[v] #[]] w fun v' w' => Ext w w' ∧ ITried S w' v' q := by
  refine gives_of_defer Tryz.func89 rfl rfl rfl ?_
  refine wpD_seq ?_
  repeat (first | refine wp_region ?_)
  refine r_alloc (cs := [.bool false, .slice none 0 0]) rfl ?_
  intro w1 g1 k1 hg1 hgs1
  skip
  refine r_alloc (cs := [.int .i64 0]) rfl ?_
  intro w2 g2 k2 hg2 hgs2
  have hgl := hg1.lt
  replace hg1 := hg1.to k2
  have k := k1.trans k2
  have hk1 := k1.size
  repeat (first | refine r_nil ?_ | refine q_then ?_)
  refine wpD_seq_defer ?_
  refine wpD_end ?_ (fun e a ρ w hm hq => defQ_end hm hq)
  repeat (first | refine wp_seq_region ?_ | refine wp_region ?_ | refine r_move (by conv => (lhs; whnf)) ?_)
  refine r_callvE (first := [v]) (cap := []) rfl (ikept_c (hS.to k) (h.to k)) rfl ?_ ?_
  · rintro v3 w3 ⟨rfl, k3, hf⟩
    have h3 := h.to (k.trans k3)
    obtain ⟨m, hv, hm⟩ := h3
    skip
    refine r_store2 rfl hv (hg1.to k3) rfl hm.one ?_
    intro w4 k4 hg4
    have hg24 := (hg2.to k3).wr k4 (by omega)
    refine r_store (u := .int .i64 0) rfl rfl hg24 (show 0 < 1 by decide) rfl ?_
    intro w5 k5 hg5
    have hg45 := hg4.wr k5 (by omega)
    repeat (first | refine r_nil ?_ | refine q_then ?_ | refine wp_ret ?_)
    refine icatch_idle.mono ?_
    rintro u' w' ⟨rfl, rfl⟩
    refine ⟨rfl, [.agg #[.bool (tst (q < 0)), m], .int .i64 0], ⟨_, _, resV_agg (by conv => (lhs; whnf)) hg45 rfl, ⟨_, _, resV_one (by conv => (lhs; whnf)) hg5, rfl, rfl⟩, rfl⟩, ?_⟩
    exact ⟨((Keeps.past (k.trans k3) k4 (by omega)).past k5 (by omega)), _, _, rfl, .inl ⟨hf, rfl, m, rfl, (hm.wrT k4 (hg1.to k3) (by decide)).wrT k5 hg24 (by decide)⟩⟩
  · rintro ch w3 ⟨rfl, k3, hf⟩
    refine q_then_panic ?_
    refine (icatch_big (hg1.to k3) rfl (hg2.to k3)).mono ?_
    rintro u' w' ⟨hu, k4, h1, h2⟩
    refine ⟨hu, [.agg #[.bool false, .slice none 0 0], .int .i64 11], ⟨_, _, resV_agg (by conv => (lhs; whnf)) h1 rfl, ⟨_, _, resV_one (by conv => (lhs; whnf)) h2, rfl, rfl⟩, rfl⟩, ?_⟩
    exact ⟨Keeps.later (k.trans k3) k4 (fun i hi _ => ⟨by omega, by omega⟩), _, _, rfl, .inr ⟨hf, rfl, zero_int⟩⟩
theorem radd_c {S : Nat → Prop} {w : World} {va vb : Value} {a b : Rat} (hS : Up S w) (ha : RatV S w va a) (hb : RatV S w vb b) (hla : rl a 400000000000) (hlb : rl b 400000000000) :
    Gives Tryz.prog 39 [va, vb] w fun v' w' => Ext w w' ∧ Tried S w' v' (a + b) := by
  have ha0 := ha
  have hb0 := hb
  obtain ⟨ma, ba, rfl, hma, hba⟩ := ha
  obtain ⟨mb, bb, rfl, hmb, hbb⟩ := hb
  refine gives_of Tryz.func39 rfl rfl rfl ?_
  repeat (first | refine wp_seq_region ?_ | refine wp_region ?_)
  refine r_box (cs := [.bool (tst (a.num < 0)), ma, ba]) (by conv => (lhs; whnf)) rfl ?_
  intro w1 ga k1 hga hgsa
  skip
  refine r_box (cs := [.bool (tst (b.num < 0)), mb, bb]) (by conv => (lhs; whnf)) rfl ?_
  intro w2 gb k2 hgb hgsb
  skip
  refine r_alloc (cs := [.bool false, .slice none 0 0, .slice none 0 0]) rfl ?_
  intro w3 g k3 hg hgs
  replace hga := hga.to (k2.trans k3)
  replace hgb := hgb.to k3
  have k := (k1.trans k2).trans k3
  have hs := (k1.trans k2).size
  replace ha0 := ha0.to k
  replace hb0 := hb0.to k
  replace hma := hma.to k
  replace hmb := hmb.to k
  replace hba := hba.to k
  replace hbb := hbb.to k
  replace hS := hS.to k
  clear k1 k2 k3
  repeat (first | refine wp_seq_region ?_ | refine wp_region ?_ | refine r_assign (by conv => (lhs; whnf)) ?_ | refine r_nil ?_)
  repeat (first | refine r_load_all rfl hga rfl ?_ | refine r_load_all rfl hgb rfl ?_)
  refine r_call (rplus_c hS ha0 hb0 hla hlb) rfl ?_
  rintro v4 w4 ⟨k4, h4⟩
  repeat (first | refine r_func ?_)
  refine r_call (rattempt_c (hS.to k4) h4) rfl ?_
  rintro v5 w5 ⟨k5, r, e, rfl, hor⟩
  repeat (first | refine r_extract rfl rfl ?_)
  have k' := (k.trans k4).trans k5
  replace hg := (hg.to k4).to k5
  rcases hor with ⟨hf, rfl, m, b, rfl, hm, hb⟩ | ⟨hf, rfl, m, b, rfl, hm, hb⟩
  · refine r_store3 rfl rfl hg rfl rfl hm.one hb.one ?_
    intro w6 k6 hg6
    repeat (first | refine r_assign (by conv => (lhs; whnf)) ?_ | refine r_nil ?_ | refine q_then ?_ | refine wp_ret ?_)
    exact end2 rfl (resV_agg (by conv => (lhs; whnf)) hg6 rfl) (resV_tmp (by conv => (lhs; whnf))) ⟨Keeps.past k' k6 (by omega), _, _, rfl, .inl ⟨hf, rfl, m, b, rfl, hm.wrT k6 hg (by decide), hb.wrT k6 hg (by decide)⟩⟩
  · refine r_store3 rfl rfl hg rfl rfl hm.one hb.one ?_
    intro w6 k6 hg6
    repeat (first | refine r_assign (by conv => (lhs; whnf)) ?_ | refine r_nil ?_ | refine q_then ?_ | refine wp_ret ?_)
    exact end2 rfl (resV_agg (by conv => (lhs; whnf)) hg6 rfl) (resV_tmp (by conv => (lhs; whnf))) ⟨Keeps.past k' k6 (by omega), _, _, rfl, .inr ⟨hf, rfl, m, b, rfl, hm.wrT k6 hg (by decide), hb.wrT k6 hg (by decide)⟩⟩
end Go.Proofs.YtpmnjjmngogkkaaGreatDoor
end

section
set_option linter.unusedVariables false
set_option linter.unusedSimpArgs false
namespace Go.Proofs.YtpmnjjmngogkkaaGreatDoor
open Go Go.RowKit
abbrev Tri := Value × Value × Value
/-- The cells of a list of three-celled values. -/
def flat : List Tri → List Value
  | [] => []
  | (a, b, c) :: r => a :: b :: c :: flat r
def Tri.val (t : Tri) : Value := .agg #[t.1, t.2.1, t.2.2]
theorem flat_length (l : List Tri) : (flat l).length = 3 * l.length := by
  induction l with
  | nil => rfl
  | cons t r ih => obtain ⟨a, b, c⟩ := t; simp only [flat, List.length_cons, ih]; omega
theorem flat_append (a b : List Tri) : flat (a ++ b) = flat a ++ flat b := by
  induction a with
  | nil => rfl
  | cons t r ih => obtain ⟨x, y, z⟩ := t; simp only [List.cons_append, flat, ih]
theorem flat_at : ∀ {l : List Tri} {j : Nat} {t : Tri}, l[j]? = some t → ((flat l).drop (3 * j)).take 3 = [t.1, t.2.1, t.2.2] := by
  intro l
  induction l with
  | nil => intro j t h; simp at h
  | cons s r ih =>
    intro j t h
    obtain ⟨a, b, c⟩ := s
    cases j with
    | zero =>
      simp only [List.getElem?_cons_zero, Option.some.injEq] at h
      subst h
      rfl
    | succ j =>
      rw [show 3 * (j + 1) = (((3 * j) + 1) + 1) + 1 by omega]
      simp only [flat, List.drop_succ_cons]
      exact ih (by simpa using h)
theorem flat_set : ∀ {l : List Tri} {j : Nat} {t : Tri}, j < l.length → (flat l).take (3 * j) ++ [t.1, t.2.1, t.2.2] ++ (flat l).drop (3 * j + 3) = flat (l.set j t) := by
  intro l
  induction l with
  | nil => intro j t h; simp at h
  | cons s r ih =>
    intro j t h
    obtain ⟨a, b, c⟩ := s
    cases j with
    | zero => rfl
    | succ j =>
      have h1 := ih (j := j) (t := t) (by simpa using h)
      rw [show 3 * (j + 1) = (((3 * j) + 1) + 1) + 1 by omega]
      simp only [flat, List.take_succ_cons, List.cons_append, List.set_cons_succ]
      rw [show 3 * j + 1 + 1 + 1 + 3 = (((3 * j + 3) + 1) + 1) + 1 by omega]
      simp only [List.drop_succ_cons]
      rw [← h1]
section rules
variable {P : Program} {n : Nat} {Q : Post} {ρ : Fr} {w : World} {all rest : List Oper} {d : Tmp} {ty : TypeId} {pos : String} {aft : Array Edge}
theorem r_load_tri {t : TypeId} {b : Nat} {z : Value} [ti : TyI P t 3 b z true] {x : Operand} {g o : Nat} {T : TypeId} {l : List Tri} {u : Tri} (j : Nat)
    (hx : ev ρ x = .pointer (some ⟨g, o, none⟩)) (ho : o = 3 * j) (hb : Blk w g T (flat l)) (hu : l[j]? = some u) (h : WpR P n all Q rest (upd ρ d u.val) w) :
    WpR P n all Q (⟨some d, .load t x, ty, pos, aft, none⟩ :: rest) ρ w := by
  subst ho
  exact r_load_part hx hb (flat_at hu) rfl h
theorem r_store_tri {t : TypeId} {b : Nat} {z : Value} {agg : Bool} [ti : TyI P t 3 b z agg] {x y : Operand} {g o : Nat} {T : TypeId} {l : List Tri} {u : Tri} (j : Nat)
    (hx : ev ρ x = .pointer (some ⟨g, o, none⟩)) (ho : o = 3 * j) (hy : ev ρ y = u.val) (hb : Blk w g T (flat l)) (hj : j < l.length) (h1 : u.1.oneCell' = true) (h2 : u.2.1.oneCell' = true) (h3 : u.2.2.oneCell' = true)
    (h : ∀ w', Wrt g w w' → Blk w' g T (flat (l.set j u)) → WpR P n all Q rest ρ w') : WpR P n all Q (⟨none, .store t x y, ty, pos, aft, none⟩ :: rest) ρ w := by
  subst ho
  have hfl := flat_length l
  have h4 := run_storeCells_at P g (3 * j) T [u.1, u.2.1, u.2.2] 0 (flat l).toArray w hb (by simp; omega) (ones3 h1 h2 h3)
  have e : ((flat l).toArray.toList.take (3 * j + 0) ++ [u.1, u.2.1, u.2.2] ++ (flat l).toArray.toList.drop (3 * j + 0 + [u.1, u.2.1, u.2.2].length)).toArray = (flat (l.set j u)).toArray := by
    rw [← flat_set (t := u) hj]
    rfl
  rw [e] at h4
  refine r_skipw (w' := w.setRow g (flat (l.set j u)).toArray) rfl rfl ?_ (h _ ?_ (setRow_heap w g _ _ T (0, 0) hb))
  · simp [execOp, hx, hy, Instr.storeAt, Instr.sureAddr, storeVar, ti.runSize w, Tri.val, Value.cells, h4]
  · exact ⟨rfl, rfl, rfl, by simp [World.setRow], fun k _ hk => setRow_other w g k _ hk⟩
theorem r_invoke {T : TypeId} {f : FuncId} [ci : CallI P f] {x : Operand} {nm : String} {v : Value} {l : List Operand} {ts : Array TypeId} {args : List Value} {Ψ : Value → World → Prop}
    (hm : ∀ v w, (method (P.types.size + Made.depth) T v nm).run P w = .ok (f, v) w) (hx : ev ρ x = .iface T v) (hc : Gives P f args w Ψ) (ha : v :: l.map (ev ρ) = args)
    (h : ∀ v w', Ψ v w' → WpR P n all Q rest (upd ρ d v) w') : WpR P n all Q (⟨some d, .call ⟨.invoke x nm, l.toArray, ts⟩, ty, pos, aft, none⟩ :: rest) ρ w := by
  refine r_step rfl ?_
  have hr : (execOp (ev ρ) ⟨some d, .call ⟨.invoke x nm, l.toArray, ts⟩, ty, pos, aft, none⟩).run P w = .ok (.enter f args.toArray) w := by
    subst ha
    have e : (callMethod (.iface T v) nm (l.map (ev ρ)).toArray).run P w = .ok (.enter f (v :: l.map (ev ρ)).toArray) w := by
      simp [callMethod, hm, ci.run]
    have e2 : (#[Value.iface T v] ++ (l.map (ev ρ)).toArray).extract 1 (#[Value.iface T v] ++ (l.map (ev ρ)).toArray).size = (l.map (ev ρ)).toArray := by
      apply Array.ext'
      simp
      exact List.take_of_length_le (by simp)
    simp [execOp, resolve, invoke, hx] at e e2 ⊢
    rw [List.take_of_length_le (by simp), e]
  unfold Stp
  rw [hr]
  exact hc.mono h
end rules
/-- A frame of which only some slots are known. -/
def updL (u : Fr) : List (Nat × Value) → Fr
  | [] => u
  | (i, v) :: r => upd (updL u r) i v
def okL (ρ : Fr) : List (Nat × Value) → Prop
  | [] => True
  | (i, v) :: r => ρ i = v ∧ okL ρ r
theorem updL_self {ρ : Fr} : ∀ {l : List (Nat × Value)}, okL ρ l → updL ρ l = ρ
  | [], _ => rfl
  | (i, v) :: r, ⟨h, hr⟩ => by rw [updL, updL_self hr, upd_self h]
theorem wp_fresh {P : Program} {n : Nat} {c : Code} {Q : Post} {ρ : Fr} {w : World} (l : List (Nat × Value)) (h : okL ρ l) (k : ∀ u, Wp P n c Q (updL u l) w) : Wp P n c Q ρ w := by
  have := k ρ
  rwa [updL_self h] at this
/-- A loop that ends within k rounds. -/
def Unr (P : Program) (n : Nat) (c : Code) (Q : Post) : Nat → Fr → World → Prop
  | 0, _, _ => False
  | k + 1, ρ, w => Wp P n c (thenQ (fun ρ w => Unr P n c Q k ρ w) Q) ρ w
theorem unr_step {P : Program} {n : Nat} {c : Code} {Q : Post} {k : Nat} {ρ : Fr} {w : World} (h : Wp P n c (thenQ (fun ρ w => Unr P n c Q k ρ w) Q) ρ w) : Unr P n c Q (k + 1) ρ w := h
theorem unr_loop {P : Program} {n : Nat} {c : Code} {Q : Post} {k : Nat} {ρ : Fr} {w : World} (h : Unr P n c Q k ρ w) : Wp P n (.loop c) Q ρ w := by
  have key : ∀ k ρ w, Unr P n c Q k ρ w → codeOk n c = true → ∀ D act, Mt n D act ρ → ∀ b K cs, ∃ e a' w', lift n D Q e a' w' ∧ Arrives P (lone (b.at act (.code c :: .inLoop c :: K)) cs w) b K cs e a' w' := by
    intro k
    induction k with
    | zero => intro ρ w h; exact h.elim
    | succ k ih =>
      intro ρ w h hc D act hm b K cs
      have h' : Wp P n c (thenQ (fun ρ w => Unr P n c Q k ρ w) Q) ρ w := h
      unfold Wp at h'
      obtain ⟨e, a₁, w₁, ⟨ρ₁, hm₁, hq⟩, harr⟩ := h' hc D act hm b (.inLoop c :: K) cs
      cases e with
      | normal =>
        obtain ⟨e₂, a₂, w₂, hq₂, harr₂⟩ := ih ρ₁ w₁ hq hc D a₁ hm₁ b K cs
        exact ⟨e₂, a₂, w₂, hq₂, .of_steps (Steps.trans harr (.one step_inLoop)) harr₂⟩
      | exit id => exact ⟨_, a₁, w₁, ⟨ρ₁, hm₁, hq⟩, .pass (x := .inLoop c) rfl (fun _ _ => .inl (by simp)) harr⟩
      | goto l => exact ⟨_, a₁, w₁, ⟨ρ₁, hm₁, hq⟩, .pass (x := .inLoop c) rfl (fun _ _ => .inl (by simp)) harr⟩
      | ret => exact ⟨_, a₁, w₁, ⟨ρ₁, hm₁, hq⟩, .pass (x := .inLoop c) rfl (fun _ _ => .inl (by simp)) harr⟩
      | panic ch => exact ⟨_, a₁, w₁, ⟨ρ₁, hm₁, hq⟩, .pass (x := .inLoop c) rfl (fun _ _ => .inl (by simp)) harr⟩
      | outgrown => exact ⟨_, a₁, w₁, ⟨ρ₁, hm₁, hq⟩, .pass (x := .inLoop c) rfl (fun _ _ => .inl (by simp)) harr⟩
  unfold Wp
  intro hc D act hm b K cs
  obtain ⟨e, a', w', hq, harr⟩ := key k ρ w h hc D act hm b K cs
  exact ⟨e, a', w', hq, .of_steps (.one step_loop) harr⟩
theorem unr_for {P : Program} {n : Nat} {c : Code} {Q : Post} {ρ : Fr} {w : World} {i : Nat} (k : Nat) (h : Unr P n c (blockQ i Q) k ρ w) : Wp P n (.block i (.loop c)) Q ρ w := wp_block (unr_loop h)
attribute [irreducible] Unr
/-- The fractions that the three-celled values are. -/
def Rats (S : Nat → Prop) (w : World) : List Tri → List Rat → Prop
  | [], [] => True
  | t :: r, q :: l => RatV S w t.val q ∧ Rats S w r l
  | _, _ => False
theorem Rats.keep {S : Nat → Prop} {w w' : World} (k : Keeps S w w') : ∀ {ts : List Tri} {l : List Rat}, Rats S w ts l → Rats S w' ts l
  | [], [], _ => trivial
  | _ :: _, _ :: _, ⟨h1, h2⟩ => ⟨h1.keep k, Rats.keep k h2⟩
theorem Rats.to {S : Nat → Prop} {w w' : World} (k : Ext w w') {ts : List Tri} {l : List Rat} (h : Rats S w ts l) : Rats S w' ts l := h.keep (.of k)
theorem Rats.length {S : Nat → Prop} {w : World} : ∀ {ts : List Tri} {l : List Rat}, Rats S w ts l → ts.length = l.length
  | [], [], _ => rfl
  | _ :: _, _ :: _, ⟨_, h2⟩ => by simp [h2.length]
theorem Rats.get {S : Nat → Prop} {w : World} : ∀ {ts : List Tri} {l : List Rat} {j : Nat} {q : Rat}, Rats S w ts l → l[j]? = some q → ∃ t, ts[j]? = some t ∧ RatV S w t.val q
  | [], [], j, q, _, h => by simp at h
  | t :: _, _ :: _, 0, q, ⟨h1, _⟩, h => ⟨t, rfl, by simp at h; subst h; exact h1⟩
  | _ :: _, _ :: _, j + 1, q, ⟨_, h2⟩, h => by simpa using h2.get (by simpa using h)
theorem RatV.tri {S : Nat → Prop} {w : World} {v : Value} {q : Rat} (h : RatV S w v q) : ∃ t : Tri, v = t.val ∧ RatV S w t.val q ∧ t.1.oneCell' = true ∧ t.2.1.oneCell' = true ∧ t.2.2.oneCell' = true := by
  have h0 := h
  obtain ⟨m, b, rfl, hm, hb⟩ := h
  exact ⟨(_, m, b), rfl, h0, rfl, hm.one, hb.one⟩
theorem meth_sign : ∀ v w, (method (Tryz.prog.types.size + Made.depth) 34 v "Sign").run Tryz.prog w = .ok (19, v) w := fun v w => by kernel_rfl
theorem meth_times : ∀ v w, (method (Tryz.prog.types.size + Made.depth) 34 v "rabbet/frac.times").run Tryz.prog w = .ok (108, v) w := fun v w => by kernel_rfl
theorem meth_minus : ∀ v w, (method (Tryz.prog.types.size + Made.depth) 34 v "rabbet/frac.minus").run Tryz.prog w = .ok (107, v) w := fun v w => by kernel_rfl
end Go.Proofs.YtpmnjjmngogkkaaGreatDoor
end

section
set_option linter.unusedVariables false
set_option linter.unusedSimpArgs false
namespace Go.Proofs.YtpmnjjmngogkkaaGreatDoor
open Go Go.RowKit
/-- The canonical form. -/
def rstr (q : Rat) : List UInt8 := Lib.itoa q.num ++ (if q.den = 1 then [] else 47 :: Lib.decDigits q.den)
theorem nDigits_le_dl (a : Nat) {k : Nat} (h : dl a ≤ k) : Lib.nDigits a ≤ 9 * k + 1 := by
  by_cases h0 : a = 0
  · subst h0; rw [Lib.nDigits_small (by decide)]; omega
  · have := nDigits_dl (n := a) (by omega); omega
theorem itoa_length (z : Int) : (Lib.itoa z).length ≤ Lib.nDigits z.natAbs + 1 := by
  unfold Lib.itoa
  split
  · rw [List.length_cons, Lib.decDigits_length]; omega
  · rw [Lib.decDigits_length, show z.toNat = z.natAbs by omega]; omega
theorem rstr_c {S : Nat → Prop} {w : World} {v : Value} {q : Rat} (ht : Tab w) (h : RatV S w v q) (hl : rl q 400000000000) :
    Gives Tryz.prog 16 [v] w fun v' w' => v' = strV (rstr q) ∧ Ext w w' := by
  obtain ⟨m, b, rfl, hm, hb⟩ := h
  obtain ⟨hl1, hl2⟩ := hl
  have hbl : (dg (bot q)).length = 0 ↔ q.den = 1 := by
    have h1 := @dl_eq_zero (bot q)
    unfold dl at h1
    rw [h1]
    unfold bot
    have := q.den_pos
    split <;> omega
  have hn1 := itoa_length q.num
  have hn2 := nDigits_le_dl q.num.natAbs hl1
  have hn3 := nDigits_le_dl q.den hl2
  refine gives_of Tryz.func16 rfl rfl rfl ?_
  repeat (first | refine wp_seq_region ?_ | refine wp_region ?_)
  refine r_box (cs := [.bool (tst (q.num < 0)), m, b]) (by conv => (lhs; whnf)) rfl ?_
  intro w1 g k1 hg hgs
  replace hb := hb.to k1
  repeat (first | refine r_load_part rfl hg rfl rfl ?_ | refine wp_seq_region ?_ | refine wp_region ?_ | refine r_assign (by conv => (lhs; whnf)) ?_ | refine r_nil ?_ | refine r_field rfl ?_)
  refine r_call (istr_c (a := q.num) (ht.to k1) ⟨m, rfl, hm.to k1⟩ (by unfold zl; omega)) rfl ?_
  rintro v2 w2 ⟨rfl, k2⟩
  replace hg := hg.to k2
  replace hb := hb.to k2
  repeat (first | refine r_load_blk rfl hg rfl ?_ | refine wp_seq_region ?_ | refine wp_seq_seq ?_ | refine wp_region ?_ | refine r_assign (by conv => (lhs; whnf)) ?_ | refine r_nil ?_ | refine q_then ?_ | refine r_len (by conv => (lhs; whnf)) (by assumption) ?_ | refine r_gtr rfl rfl ?_ | refine r_field rfl ?_)
  try refine wp_seq_cond ?_
  refine wp_cond_dec rfl ?_ ?_ <;> intro hc
  · have hq : ¬ q.den = 1 := fun h => by have := hbl.2 h; omega
    have hbq : bot q = q.den := by unfold bot; rw [if_neg hq]
    rw [hbq] at hb
    repeat (first | refine r_load_blk rfl hg rfl ?_ | refine wp_region ?_ | refine r_move (by conv => (lhs; whnf)) ?_ | refine r_field rfl ?_)
    refine r_call (mstr_c ((ht.to k1).to k2) hb (by omega)) rfl ?_
    rintro v3 w3 ⟨rfl, k3⟩
    refine r_cat (a := [47]) rfl rfl (by rw [Lib.decDigits_length]; simp; omega) ?_
    refine r_cat rfl rfl (by rw [List.length_append, Lib.decDigits_length]; simp; omega) ?_
    repeat (first | refine wp_seq_region ?_ | refine wp_region ?_ | refine r_move (by conv => (lhs; whnf)) ?_ | refine r_assign (by conv => (lhs; whnf)) ?_ | refine r_nil ?_ | refine q_then ?_ | refine wp_ret ?_)
    refine end_tmp rfl (by conv => (lhs; whnf)) ⟨?_, (k1.trans k2).trans k3⟩
    unfold rstr
    rw [if_neg hq]
    rfl
  · have hq : q.den = 1 := hbl.1 (by omega)
    repeat (first | refine wp_seq_region ?_ | refine wp_region ?_ | refine r_move (by conv => (lhs; whnf)) ?_ | refine r_assign (by conv => (lhs; whnf)) ?_ | refine r_nil ?_ | refine q_then ?_ | refine wp_ret ?_ | refine wp_skip ?_)
    refine end_tmp rfl (by conv => (lhs; whnf)) ⟨?_, k1.trans k2⟩
    unfold rstr
    rw [if_pos hq, List.append_nil]
/-- Few digits in both parts. -/
def Short (q : Rat) : Prop := Lib.nDigits q.num.natAbs ≤ 60 ∧ Lib.nDigits q.den ≤ 60
theorem short_c {S : Nat → Prop} {w : World} {v : Value} {q : Rat} (hS : Up S w) (ht : Tab w) (h : RatV S w v q) (hl : rl q 400000000000) :
    Gives Tryz.prog 164 [v] w fun v' w' => v' = .bool (tst (Short q)) ∧ Ext w w' := by
  have h0 := h
  obtain ⟨m, b, rfl, hm, hb⟩ := h
  obtain ⟨hl1, hl2⟩ := hl
  refine gives_of Tryz.func164 rfl rfl rfl ?_
  repeat (first | refine wp_seq_region ?_ | refine wp_region ?_)
  refine r_box (cs := [.bool (tst (q.num < 0)), m, b]) (by conv => (lhs; whnf)) rfl ?_
  intro w1 g k1 hg hgs
  repeat (first | refine r_load_blk rfl hg rfl ?_ | refine wp_seq_region ?_ | refine wp_region ?_ | refine r_assign (by conv => (lhs; whnf)) ?_ | refine r_nil ?_ | refine r_field rfl ?_)
  refine r_call (mstr_c (ht.to k1) (hm.to k1) (by omega)) rfl ?_
  rintro v2 w2 ⟨rfl, k2⟩
  have hlen1 := Lib.decDigits_length q.num.natAbs
  have hlen2 := Lib.decDigits_length q.den
  repeat (first | refine r_lenS rfl ?_ | refine r_move (by conv => (lhs; whnf)) ?_ | refine r_leq rfl rfl ?_)
  refine r_guard_split rfl rfl ?_ ?_ <;> intro hc
  · repeat (first | refine r_load_all rfl (hg.to k2) rfl ?_ | refine r_guard_run rfl rfl ?_)
    refine r_call (den_c (hS.to (k1.trans k2)) (h0.to (k1.trans k2))) rfl ?_
    rintro v3 w3 ⟨k3, h3⟩
    repeat (first | refine r_guard_run rfl rfl ?_)
    refine r_call (mstr_c (((ht.to k1).to k2).to k3) h3 (by omega)) rfl ?_
    rintro v4 w4 ⟨rfl, k4⟩
    repeat (first | refine r_lenS rfl ?_ | refine r_assign (by conv => (lhs; whnf)) ?_ | refine r_nil ?_ | refine q_then ?_ | refine wp_ret ?_ | refine r_guard_run rfl rfl ?_ | refine r_pick_true rfl (by conv => (lhs; whnf)) ?_ | refine r_leq rfl rfl ?_)
    refine end_tmp rfl (by conv => (lhs; whnf)) ⟨congrArg Value.bool (tst_congr ?_), ((k1.trans k2).trans k3).trans k4⟩
    unfold Short
    omega
  · repeat (first | refine r_assign (by conv => (lhs; whnf)) ?_ | refine r_nil ?_ | refine q_then ?_ | refine wp_ret ?_ | refine r_guard_skip rfl rfl rfl ?_ | refine r_pick_false rfl (by conv => (lhs; whnf)) ?_)
    refine end_tmp rfl (by conv => (lhs; whnf)) ⟨?_, k1.trans k2⟩
    show Value.bool false = _
    rw [tst_false fun h => hc (by have := h.1; omega)]
theorem long_c {S : Nat → Prop} {w : World} {v : Value} {q : Rat} (hS : Up S w) (ht : Tab w) (h : RatV S w v q) (hl : rl q 400000000000) :
    Gives Tryz.prog 163 [v] w fun v' w' => v' = .bool (tst (¬ Short q)) ∧ Ext w w' := by
  have h0 := h
  obtain ⟨m, b, rfl, hm, hb⟩ := h
  refine gives_of Tryz.func163 rfl rfl rfl ?_
  repeat (first | refine wp_seq_region ?_ | refine wp_region ?_)
  refine r_box (cs := [.bool (tst (q.num < 0)), m, b]) (by conv => (lhs; whnf)) rfl ?_
  intro w1 g k1 hg hgs
  repeat (first | refine r_load_all rfl hg rfl ?_ | refine wp_seq_region ?_ | refine wp_region ?_ | refine r_assign (by conv => (lhs; whnf)) ?_ | refine r_nil ?_)
  refine r_call (short_c (hS.to k1) (ht.to k1) (h0.to k1) hl) rfl ?_
  rintro v2 w2 ⟨rfl, k2⟩
  repeat (first | refine r_assign (by conv => (lhs; whnf)) ?_ | refine r_nil ?_ | refine q_then ?_ | refine wp_ret ?_ | refine r_notB rfl ?_)
  exact end_tmp rfl (by conv => (lhs; whnf)) ⟨rfl, k1.trans k2⟩
theorem long2_c {S : Nat → Prop} {w : World} {v : Value} {q : Rat} (hS : Up S w) (ht : Tab w) (h : RatV S w v q) (hl : rl q 400000000000) :
    Gives Tryz.prog 166 [v] w fun v' w' => v' = .bool (tst (¬ Short q)) ∧ Ext w w' := by
  have h0 := h
  obtain ⟨m, b, rfl, hm, hb⟩ := h
  refine gives_of Tryz.func166 rfl rfl rfl ?_
  repeat (first | refine wp_seq_region ?_ | refine wp_region ?_)
  refine r_box (cs := [.bool (tst (q.num < 0)), m, b]) (by conv => (lhs; whnf)) rfl ?_
  intro w1 g k1 hg hgs
  repeat (first | refine r_load_all rfl hg rfl ?_ | refine wp_seq_region ?_ | refine wp_region ?_ | refine r_assign (by conv => (lhs; whnf)) ?_ | refine r_nil ?_)
  refine r_call (short_c (hS.to k1) (ht.to k1) (h0.to k1) hl) rfl ?_
  rintro v2 w2 ⟨rfl, k2⟩
  repeat (first | refine r_assign (by conv => (lhs; whnf)) ?_ | refine r_nil ?_ | refine q_then ?_ | refine wp_ret ?_ | refine r_notB rfl ?_)
  exact end_tmp rfl (by conv => (lhs; whnf)) ⟨rfl, k1.trans k2⟩
theorem neg_test_c {S : Nat → Prop} {w : World} {v : Value} {q : Rat} (h : RatV S w v q) :
    Gives Tryz.prog 170 [v] w fun v' w' => v' = .bool (tst (q.num.sign < 0)) ∧ Ext w w' := by
  have h0 := h
  obtain ⟨m, b, rfl, hm, hb⟩ := h
  refine gives_of Tryz.func170 rfl rfl rfl ?_
  repeat (first | refine wp_seq_region ?_ | refine wp_region ?_)
  refine r_box (cs := [.bool (tst (q.num < 0)), m, b]) (by conv => (lhs; whnf)) rfl ?_
  intro w1 g k1 hg hgs
  repeat (first | refine r_load_all rfl hg rfl ?_ | refine wp_seq_region ?_ | refine wp_region ?_ | refine r_assign (by conv => (lhs; whnf)) ?_ | refine r_nil ?_)
  refine r_call (rsign_c (h0.to k1)) rfl ?_
  rintro v2 w2 ⟨rfl, k2⟩
  repeat (first | refine r_assign (by conv => (lhs; whnf)) ?_ | refine r_nil ?_ | refine q_then ?_ | refine wp_ret ?_ | refine r_lss rfl rfl ?_)
  exact end_tmp rfl (by conv => (lhs; whnf)) ⟨rfl, k1.trans k2⟩
/-- The first fraction that meets a test, or -1. -/
def Found (l : List Rat) (p : Rat → Prop) (i : Int) : Prop := (i = -1 ∧ ∀ q ∈ l, ¬ p q) ∨ ∃ (k : Nat) (q : Rat), i = k ∧ l[k]? = some q ∧ p q ∧ ∀ j q', j < k → l[j]? = some q' → ¬ p q'
theorem index_c {S : Nat → Prop} {w : World} {g m cap : Nat} {T : TypeId} {ts : List Tri} {l : List Rat} {f : FuncId} [ci : CallI Tryz.prog f] {first caps : List Value} (p : Rat → Prop)
    (hb : Blk w g T (flat ts)) (hr : Rats S w (ts.take m) l) (hm : m ≤ ts.length) (hmm : m ≤ 1000000000)
    (hf : ∀ w' v q, Ext w w' → RatV S w' v q → q ∈ l → Gives Tryz.prog f (first ++ [v] ++ caps) w' fun v' w'' => v' = .bool (tst (p q)) ∧ Ext w' w'') :
    Gives Tryz.prog 169 [.slice (some ⟨g, 0, none⟩) m cap, .func (.func f) first.toArray caps.toArray] w fun v' w' => (∃ i, v' = .int .i64 i ∧ Found l p i) ∧ Ext w w' := by
  have hlen : l.length = m := by rw [← hr.length, List.length_take]; omega
  refine gives_of Tryz.func169 rfl rfl rfl ?_
  repeat (first | refine wp_seq_region ?_ | refine wp_seq_seq ?_ | refine wp_region ?_ | refine r_move (by conv => (lhs; whnf)) ?_ | refine r_assign (by conv => (lhs; whnf)) ?_ | refine r_nil ?_ | refine q_then ?_ | refine r_len_sl rfl ?_)
  try refine wp_seq_block ?_
  refine wp_for [(4, 5), (8, 18)] (fun k ρ w' => ∃ i : Nat, ρ 8 = .int .i64 (i : Int) ∧ i + k = m ∧ (∀ j q, j < i → l[j]? = some q → ¬ p q) ∧ Ext w w') m ?_ ?_
  · exact ⟨0, rfl, by omega, fun j q h => by omega, .refl⟩
  rintro k u w1 ⟨i, h8, hik, hno, k1⟩
  refine wp_learn 8 h8 ?_
  repeat (first | refine wp_seq_region ?_ | refine wp_region ?_ | refine r_nil ?_ | refine q_then ?_ | refine r_lss rfl rfl ?_)
  try refine wp_seq_cond ?_
  refine wp_cond_dec rfl ?_ ?_ <;> intro hc
  · obtain ⟨q, hq⟩ : ∃ q, l[i]? = some q := ⟨l[i]'(by omega), List.getElem?_eq_getElem (by omega)⟩
    obtain ⟨t, ht, htq⟩ := hr.get hq
    have ht' : ts[i]? = some t := by rw [List.getElem?_take] at ht; split at ht; exact ht; cases ht
    repeat (first | refine wp_seq_region ?_ | refine wp_seq_bseq ?_ | refine wp_region ?_ | refine r_move (by conv => (lhs; whnf)) ?_ | refine r_assign (by conv => (lhs; whnf)) ?_ | refine r_nil ?_ | refine wp_block_seq ?_ | refine wp_skip ?_ | refine r_index_sl rfl rfl (by omega) (by omega) ?_)
    refine r_load_tri i rfl (by omega) (hb.to k1) ht' ?_
    refine r_callv rfl (hf _ _ q k1 (htq.to k1) (List.mem_of_getElem? hq)) rfl ?_
    rintro v2 w2 ⟨rfl, k2⟩
    repeat (first | refine r_nil ?_ | refine q_then ?_)
    try refine wp_seq_cond ?_
    refine wp_cond_dec rfl ?_ ?_ <;> intro hp
    · repeat (first | refine wp_seq_region ?_ | refine wp_region ?_ | refine r_move (by conv => (lhs; whnf)) ?_ | refine r_assign (by conv => (lhs; whnf)) ?_ | refine r_nil ?_ | refine q_then ?_ | refine wp_ret ?_ | refine q_then_ret ?_ | refine q_block_ret ?_)
      exact end_tmp rfl (by conv => (lhs; whnf)) ⟨⟨_, rfl, .inr ⟨i, q, rfl, hq, hp, hno⟩⟩, k1.trans k2⟩
    · repeat (first | refine wp_region ?_ | refine r_move (by conv => (lhs; whnf)) ?_ | refine r_nil ?_ | refine q_then ?_ | refine wp_skip ?_ | refine r_addI rfl rfl (by omega) (by omega) ?_)
      refine ⟨by (repeat (first | refine agree_upd rfl ?_ | exact agree_over | refine agree_sub rfl ?_ | exact agree_refl)), k - 1, by omega, i + 1, congrArg (Value.int .i64) (by omega), by omega, fun j q' hj hq' => ?_, k1.trans k2⟩
      by_cases e : j = i
      · subst e
        rw [hq] at hq'
        cases hq'
        exact hp
      · exact hno j q' (by omega) hq'
  · repeat (first | refine wp_seq_region ?_ | refine wp_region ?_ | refine r_assign (by conv => (lhs; whnf)) ?_ | refine r_nil ?_ | refine q_then ?_ | refine wp_ret ?_ | refine wp_exit ?_)
    refine end_tmp rfl (by conv => (lhs; whnf)) ⟨⟨_, rfl, .inl ⟨rfl, fun q hq => ?_⟩⟩, k1⟩
    obtain ⟨j, hj, hjq⟩ := List.mem_iff_getElem.1 hq
    exact hno j q (by omega) (by rw [← hjq]; exact List.getElem?_eq_getElem hj)
theorem found_pos {l : List Rat} {p : Rat → Prop} {i : Int} (h : Found l p i) : 0 ≤ i ↔ ∃ q ∈ l, p q := by
  rcases h with ⟨rfl, h⟩ | ⟨k, q, rfl, hq, hp, _⟩
  · constructor
    · intro h1; omega
    · rintro ⟨q, hq, hp⟩; exact absurd hp (h q hq)
  · exact ⟨fun _ => ⟨q, List.mem_of_getElem? hq, hp⟩, fun _ => by omega⟩
theorem contains_c {S : Nat → Prop} {w : World} {g m cap : Nat} {T : TypeId} {ts : List Tri} {l : List Rat} {f : FuncId} [ci : CallI Tryz.prog f] {first caps : List Value} (p : Rat → Prop)
    (hb : Blk w g T (flat ts)) (hr : Rats S w (ts.take m) l) (hm : m ≤ ts.length) (hmm : m ≤ 1000000000)
    (hf : ∀ w' v q, Ext w w' → RatV S w' v q → q ∈ l → Gives Tryz.prog f (first ++ [v] ++ caps) w' fun v' w'' => v' = .bool (tst (p q)) ∧ Ext w' w'') :
    Gives Tryz.prog 129 [.slice (some ⟨g, 0, none⟩) m cap, .func (.func f) first.toArray caps.toArray] w fun v' w' => v' = .bool (tst (∃ q ∈ l, p q)) ∧ Ext w w' := by
  refine gives_of Tryz.func129 rfl rfl rfl ?_
  repeat (first | refine wp_seq_region ?_ | refine wp_region ?_ | refine r_move (by conv => (lhs; whnf)) ?_ | refine r_assign (by conv => (lhs; whnf)) ?_ | refine r_nil ?_)
  refine r_call (index_c p hb hr hm hmm hf) rfl ?_
  rintro v2 w2 ⟨⟨i, rfl, hi⟩, k2⟩
  repeat (first | refine r_assign (by conv => (lhs; whnf)) ?_ | refine r_nil ?_ | refine q_then ?_ | refine wp_ret ?_ | refine r_geq rfl rfl ?_)
  exact end_tmp rfl (by conv => (lhs; whnf)) ⟨congrArg Value.bool (tst_congr (found_pos hi)), k2⟩
end Go.Proofs.YtpmnjjmngogkkaaGreatDoor
end

section
set_option linter.unusedVariables false
set_option linter.unusedSimpArgs false
namespace Go.Proofs.YtpmnjjmngogkkaaGreatDoor
open Go Go.RowKit
theorem dec_no47 (n : Nat) : (47 : UInt8) ∉ Lib.decDigits n := fun h => by
  have := (decL_dec n).2.1 _ h
  unfold Dig at this
  have h47 : (47 : UInt8).toNat = 47 := rfl
  omega
theorem itoa_no47 (z : Int) : (47 : UInt8) ∉ Lib.itoa z := by
  unfold Lib.itoa
  split
  · intro h
    rcases List.mem_cons.1 h with h | h
    · cases h
    · exact dec_no47 _ h
  · exact dec_no47 _
theorem cut_inj : ∀ {a b c d : List UInt8}, (47 : UInt8) ∉ a → (47 : UInt8) ∉ c → a ++ 47 :: b = c ++ 47 :: d → a = c ∧ b = d := by
  intro a
  induction a with
  | nil =>
    intro b c d _ hc h
    cases c with
    | nil => simpa using h
    | cons y c =>
      simp only [List.nil_append, List.cons_append, List.cons.injEq] at h
      exact absurd (h.1 ▸ List.mem_cons_self ..) hc
  | cons x a ih =>
    intro b c d ha hc h
    cases c with
    | nil =>
      simp only [List.nil_append, List.cons_append, List.cons.injEq] at h
      exact absurd (h.1 ▸ List.mem_cons_self ..) ha
    | cons y c =>
      simp only [List.cons_append, List.cons.injEq] at h
      obtain ⟨h1, h2⟩ := ih (fun h => ha (List.mem_cons_of_mem _ h)) (fun h => hc (List.mem_cons_of_mem _ h)) h.2
      exact ⟨by rw [h.1, h1], h2⟩
theorem rstr_int {q : Rat} (h : q.den = 1) : rstr q = Lib.itoa q.num := by unfold rstr; rw [if_pos h, List.append_nil]
theorem rstr_frac {q : Rat} (h : q.den ≠ 1) : rstr q = Lib.itoa q.num ++ 47 :: Lib.decDigits q.den := by unfold rstr; rw [if_neg h]
/-- Without a stroke: an integer. -/
theorem rstr_none {s : List UInt8} (hs : (47 : UInt8) ∉ s) (q : Rat) : s = rstr q ↔ q.den = 1 ∧ s = Lib.itoa q.num := by
  by_cases h : q.den = 1
  · rw [rstr_int h]; exact ⟨fun h2 => ⟨h, h2⟩, fun h2 => h2.2⟩
  · constructor
    · intro h2
      rw [rstr_frac h] at h2
      exact absurd (h2 ▸ List.mem_append_right _ (List.mem_cons_self ..)) hs
    · exact fun h2 => absurd h2.1 h
/-- With one: two integers. -/
theorem rstr_cut {a b : List UInt8} (ha : (47 : UInt8) ∉ a) (q : Rat) : a ++ 47 :: b = rstr q ↔ q.den ≠ 1 ∧ a = Lib.itoa q.num ∧ b = Lib.decDigits q.den := by
  by_cases h : q.den = 1
  · constructor
    · intro h2
      rw [rstr_int h] at h2
      exact absurd (h2 ▸ List.mem_append_right _ (List.mem_cons_self ..)) (itoa_no47 _)
    · exact fun h2 => absurd h h2.1
  · rw [rstr_frac h]
    constructor
    · exact fun h2 => ⟨h, cut_inj ha (itoa_no47 _) h2⟩
    · rintro ⟨_, rfl, rfl⟩; rfl
theorem rat_of (n : Int) {d : Nat} (hd : d ≠ 0) (hg : Nat.gcd n.natAbs d = 1) : ∃ q : Rat, q.num = n ∧ q.den = d := ⟨⟨n, d, hd, hg⟩, rfl, rfl⟩
theorem rat_gcd (q : Rat) : Nat.gcd q.num.natAbs q.den = 1 := q.reduced
theorem rstr_inj {p q : Rat} (h : rstr p = rstr q) : p = q := by
  by_cases hp : p.den = 1
  · have h2 := (rstr_none (itoa_no47 p.num) q).1 ((rstr_int hp).symm.trans h)
    exact Rat.ext (itoa_inj h2.2) (hp.trans h2.1.symm)
  · have h2 := (rstr_cut (itoa_no47 p.num) q).1 ((rstr_frac hp).symm.trans h)
    refine Rat.ext (itoa_inj h2.2.1) ?_
    have h3 := congrArg digV h2.2.2
    rwa [digV_dec, digV_dec] at h3
/-- How long they are. -/
theorem num_len (q : Rat) : (Lib.itoa q.num).length ≤ (rstr q).length := by unfold rstr; rw [List.length_append]; omega
theorem den_len (q : Rat) : Lib.nDigits q.den ≤ (rstr q).length := by
  by_cases h : q.den = 1
  · rw [h, Lib.nDigits_small (by decide), rstr_int h]
    cases h2 : Lib.itoa q.num with
    | nil =>
      unfold Lib.itoa at h2
      split at h2
      · cases h2
      · exact absurd h2 (dec_ne _)
    | cons x l => simp
  · rw [rstr_frac h, List.length_append, List.length_cons, Lib.decDigits_length]; omega
theorem big_low10 : 10 ^ 30102 ≤ Big := by
  rw [big_def]
  exact Nat.le_of_ble_eq_true (by kernel_rfl)
theorem pow_mono_10 {i j : Nat} (h : i ≤ j) : 10 ^ i ≤ 10 ^ j := Nat.pow_le_pow_right (by decide) h
theorem big_few {n : Nat} (h : Lib.nDigits n ≤ 30102) : n < Big := Nat.lt_of_lt_of_le (Lib.lt_pow_nDigits n) (Nat.le_trans (pow_mono_10 h) big_low10)
theorem abs_digits (z : Int) : Lib.nDigits z.natAbs ≤ (Lib.itoa z).length := by
  unfold Lib.itoa
  split
  · rw [List.length_cons, Lib.decDigits_length]; omega
  · rw [Lib.decDigits_length, show z.toNat = z.natAbs by omega]; exact Nat.le_refl _
theorem fits_len {q : Rat} (h : (rstr q).length ≤ 30102) : Fits q :=
  ⟨big_few (Nat.le_trans (abs_digits _) (Nat.le_trans (num_len q) h)), big_few (Nat.le_trans (den_len q) h)⟩
theorem dl_digits {n k : Nat} (h : Lib.nDigits n ≤ 9 * k) : dl n ≤ k := by
  refine dl_le ?_
  rw [pow_nine]
  exact Nat.lt_of_lt_of_le (Lib.lt_pow_nDigits n) (Nat.pow_le_pow_right (by omega) h)
theorem rl_len {q : Rat} {k : Nat} (h : (rstr q).length ≤ 9 * k) : rl q k :=
  ⟨dl_digits (Nat.le_trans (abs_digits _) (Nat.le_trans (num_len q) h)), dl_digits (Nat.le_trans (den_len q) h)⟩
end Go.Proofs.YtpmnjjmngogkkaaGreatDoor
end

section
set_option linter.unusedVariables false
set_option linter.unusedSimpArgs false
namespace Go.Proofs.YtpmnjjmngogkkaaGreatDoor
open Go Go.RowKit
section rules
variable {P : Program} {n : Nat} {Q : Post} {ρ : Fr} {w : World} {all rest : List Oper} {d d2 : Tmp} {ty ty2 ty3 ty4 : TypeId} {pos pos2 pos3 pos4 : String} {aft aft2 aft3 aft4 : Array Edge}
/-- x := v -/
theorem r_new {T : TypeId} {s b : Nat} {z : Value} {agg : Bool} [ti : TyI P T s b z agg] {y : Operand} {us zs : List Value} {u : Value} (hz : z.cells = zs.toArray) (hy : ∀ g, ev (upd ρ d (.pointer (some ⟨g, 0, none⟩))) y = u) (hc : u.cells = us.toArray)
    (hl : us.length = s) (h1 : ∀ v ∈ us, v.oneCell' = true) (h : ∀ w' g, Ext w w' → w.heap.size ≤ g → Blk w' g T us → WpR P n all Q rest (upd ρ d (.pointer (some ⟨g, 0, none⟩))) w') :
    WpR P n all Q (⟨some d, .alloc T, ty, pos, aft, none⟩ :: ⟨none, .store T (.tmp d) y, ty2, pos2, aft2, none⟩ :: rest) ρ w := by
  refine r_alloc hz ?_
  intro w1 g k1 hg hgs
  have hzl : zs.length = s := by
    have := ti.zsize
    rw [hz] at this
    simpa using this
  refine r_store_all (us := us) (upd_same _ _ _) (hy g) hc hl hg hzl h1 ?_
  intro w2 k2 hg2
  exact h w2 g (k1.past k2 hgs) hgs hg2
/-- x, y := u, v -/
theorem r_new2 {T T2 : TypeId} {s b s2 b2 : Nat} {z z2 : Value} {agg agg2 : Bool} [ti : TyI P T s b z agg] [ti2 : TyI P T2 s2 b2 z2 agg2] {y y2 : Operand} {us zs us2 zs2 : List Value} {u u2 : Value} (hd : Nat.beq d d2 = false)
    (hz : z.cells = zs.toArray) (hz2 : z2.cells = zs2.toArray) (hy : ∀ g g2, ev (upd (upd ρ d (.pointer (some ⟨g, 0, none⟩))) d2 (.pointer (some ⟨g2, 0, none⟩))) y = u) (hy2 : ∀ g g2, ev (upd (upd ρ d (.pointer (some ⟨g, 0, none⟩))) d2 (.pointer (some ⟨g2, 0, none⟩))) y2 = u2)
    (hc : u.cells = us.toArray) (hc2 : u2.cells = us2.toArray) (hl : us.length = s) (hl2 : us2.length = s2) (h1 : ∀ v ∈ us, v.oneCell' = true) (h2 : ∀ v ∈ us2, v.oneCell' = true)
    (h : ∀ w' g g2, Ext w w' → w.heap.size ≤ g → w.heap.size ≤ g2 → g ≠ g2 → Blk w' g T us → Blk w' g2 T2 us2 → WpR P n all Q rest (upd (upd ρ d (.pointer (some ⟨g, 0, none⟩))) d2 (.pointer (some ⟨g2, 0, none⟩))) w') :
    WpR P n all Q (⟨some d, .alloc T, ty, pos, aft, none⟩ :: ⟨some d2, .alloc T2, ty2, pos2, aft2, none⟩ :: ⟨none, .store T (.tmp d) y, ty3, pos3, aft3, none⟩ :: ⟨none, .store T2 (.tmp d2) y2, ty4, pos4, aft4, none⟩ :: rest) ρ w := by
  refine r_alloc hz ?_
  intro w1 g k1 hg hgs
  refine r_alloc hz2 ?_
  intro w2 g2 k2 hg2 hgs2
  have hne := hg.lt
  have hs1 := k1.size
  have zl : ∀ {z : Value} {zs : List Value} {s : Nat}, z.cells = zs.toArray → z.cells.size = s → zs.length = s := by
    intro z zs s h1 h2
    rw [h1] at h2
    simpa using h2
  refine r_store_all (us := us) (by show upd _ _ _ d = _; rw [upd_ne hd, upd_same]) (hy g g2) hc hl (hg.to k2) (zl hz ti.zsize) h1 ?_
  intro w3 k3 hg3
  refine r_store_all (us := us2) (upd_same _ _ _) (hy2 g g2) hc2 hl2 (hg2.wr k3 (by omega)) (zl hz2 ti2.zsize) h2 ?_
  intro w4 k4 hg4
  exact h w4 g g2 (((k1.trans k2).past k3 hgs).past k4 (by omega)) hgs (by omega) (by omega) (hg3.wr k4 (by omega)) hg4
end rules
end Go.Proofs.YtpmnjjmngogkkaaGreatDoor
end

section
set_option linter.unusedVariables false
set_option linter.unusedSimpArgs false
namespace Go.Proofs.YtpmnjjmngogkkaaGreatDoor
open Go Go.RowKit
theorem zwhole_c {S : Nat → Prop} {w : World} {v : Value} {z : Int} (hS : Up S w) (h : ZV S w v z) :
    Gives Tryz.prog 119 [v] w fun v' w' => Ext w w' ∧ QV S w' v' (z : Rat) := by
  obtain ⟨m, rfl, hm⟩ := h
  refine gives_of Tryz.func119 rfl rfl rfl ?_
  have k : Ext w w := .refl
  repeat (first | refine wp_seq_region ?_ | refine wp_seq_seq ?_ | refine wp_seq_bregion ?_ | refine wp_seq_bseq ?_ | refine wp_seq_skip ?_ | refine wp_region ?_ | refine r_move (by conv => (lhs; whnf)) ?_ | refine r_assign (by conv => (lhs; whnf)) ?_ | refine r_nil ?_ | refine q_then ?_ | refine wp_block_region ?_ | refine wp_block_seq ?_ | refine wp_block_cond ?_ | refine wp_block_block ?_ | refine wp_block_skip ?_ | refine wp_ret ?_ | refine q_then_ret ?_ | refine q_block_ret ?_ | refine wp_skip ?_ | refine wp_exit ?_ | refine q_then_exit ?_ | refine q_block ?_ | refine q_block_hit rfl ?_ | refine q_block_miss rfl ?_ | refine r_extract rfl rfl ?_ | refine r_len_sl rfl ?_ | refine r_len (by conv => (lhs; whnf)) (by assumption) ?_ | refine r_len_str rfl ?_ | refine r_guard_run rfl rfl ?_ | refine r_guard_skip rfl rfl rfl ?_ | refine r_guard_undef rfl rfl ?_ | refine r_pick_true rfl (by conv => (lhs; whnf)) ?_ | refine r_pick_false rfl (by conv => (lhs; whnf)) ?_ | refine r_lss rfl rfl ?_ | refine r_eql rfl rfl ?_ | refine r_neq rfl rfl ?_ | refine r_gtr rfl rfl ?_ | refine r_geq rfl rfl ?_ | refine r_leq rfl rfl ?_ | refine r_addI rfl rfl (by omega) (by omega) ?_ | refine r_subI rfl rfl (by omega) (by omega) ?_ | refine r_index_sl rfl rfl (by omega) (by omega) ?_ | refine r_index (by conv => (lhs; whnf)) rfl (by assumption) (by omega) (by omega) ?_ | refine r_conv rfl (wrap_i64 (by omega) (by omega)) ?_ | refine r_conv rfl (wrap_u64 (by omega) (by omega)) ?_ | refine r_conv rfl (wrap_u32 (by omega) (by omega)) ?_ | refine r_remP rfl rfl (by omega) (by omega) ?_ | refine r_quoU rfl rfl (by omega) (by omega) (by omega) ?_ | refine r_quoI rfl rfl (by omega) (by omega) (by omega) ?_ | refine r_max rfl rfl ?_ | refine r_min rfl rfl ?_ | refine r_notB rfl ?_ | refine r_not rfl ?_ | refine r_eqlB rfl rfl ?_ | refine r_neqB rfl rfl ?_ | refine r_func ?_ | refine r_field rfl ?_ | refine wp_if_true rfl ?_ | refine wp_if_false rfl ?_ | refine wp_if_yes rfl (by omega) ?_ | refine wp_if_no rfl (by omega) ?_ | refine wp_cond_true rfl ?_ | refine wp_cond_false rfl ?_ | refine wp_cond_yes rfl (by omega) ?_ | refine wp_cond_no rfl (by omega) ?_ | refine r_guard_yes rfl rfl (by omega) ?_ | refine r_guard_no rfl rfl (by omega) ?_ | refine r_nilCheck rfl ?_)
  refine r_box (cs := [.bool (tst (z < 0)), m]) (by conv => (lhs; whnf)) rfl ?_
  intro w_1 gz k_1 hgz hs_1
  have hsgz : w.heap.size ≤ gz := Nat.le_trans k.size hs_1
  clear hs_1
  replace hS := hS.to k_1
  replace hm := hm.to k_1
  replace k := k.trans k_1
  clear k_1
  repeat (first | refine wp_seq_region ?_ | refine wp_seq_seq ?_ | refine wp_seq_bregion ?_ | refine wp_seq_bseq ?_ | refine wp_seq_skip ?_ | refine wp_region ?_ | refine r_move (by conv => (lhs; whnf)) ?_ | refine r_assign (by conv => (lhs; whnf)) ?_ | refine r_nil ?_ | refine q_then ?_ | refine wp_block_region ?_ | refine wp_block_seq ?_ | refine wp_block_cond ?_ | refine wp_block_block ?_ | refine wp_block_skip ?_ | refine wp_ret ?_ | refine q_then_ret ?_ | refine q_block_ret ?_ | refine wp_skip ?_ | refine wp_exit ?_ | refine q_then_exit ?_ | refine q_block ?_ | refine q_block_hit rfl ?_ | refine q_block_miss rfl ?_ | refine r_extract rfl rfl ?_ | refine r_len_sl rfl ?_ | refine r_len (by conv => (lhs; whnf)) (by assumption) ?_ | refine r_len_str rfl ?_ | refine r_guard_run rfl rfl ?_ | refine r_guard_skip rfl rfl rfl ?_ | refine r_guard_undef rfl rfl ?_ | refine r_pick_true rfl (by conv => (lhs; whnf)) ?_ | refine r_pick_false rfl (by conv => (lhs; whnf)) ?_ | refine r_lss rfl rfl ?_ | refine r_eql rfl rfl ?_ | refine r_neq rfl rfl ?_ | refine r_gtr rfl rfl ?_ | refine r_geq rfl rfl ?_ | refine r_leq rfl rfl ?_ | refine r_addI rfl rfl (by omega) (by omega) ?_ | refine r_subI rfl rfl (by omega) (by omega) ?_ | refine r_index_sl rfl rfl (by omega) (by omega) ?_ | refine r_index (by conv => (lhs; whnf)) rfl (by assumption) (by omega) (by omega) ?_ | refine r_conv rfl (wrap_i64 (by omega) (by omega)) ?_ | refine r_conv rfl (wrap_u64 (by omega) (by omega)) ?_ | refine r_conv rfl (wrap_u32 (by omega) (by omega)) ?_ | refine r_remP rfl rfl (by omega) (by omega) ?_ | refine r_quoU rfl rfl (by omega) (by omega) (by omega) ?_ | refine r_quoI rfl rfl (by omega) (by omega) (by omega) ?_ | refine r_max rfl rfl ?_ | refine r_min rfl rfl ?_ | refine r_notB rfl ?_ | refine r_not rfl ?_ | refine r_eqlB rfl rfl ?_ | refine r_neqB rfl rfl ?_ | refine r_func ?_ | refine r_field rfl ?_ | refine wp_if_true rfl ?_ | refine wp_if_false rfl ?_ | refine wp_if_yes rfl (by omega) ?_ | refine wp_if_no rfl (by omega) ?_ | refine wp_cond_true rfl ?_ | refine wp_cond_false rfl ?_ | refine wp_cond_yes rfl (by omega) ?_ | refine wp_cond_no rfl (by omega) ?_ | refine r_guard_yes rfl rfl (by omega) ?_ | refine r_guard_no rfl rfl (by omega) ?_ | refine r_nilCheck rfl ?_)
  refine r_alloc (cs := [.bool false, .slice none 0 0, .bool false, .slice none 0 0]) rfl ?_
  intro w_2 g k_2 hg hs_2
  have hsg : w.heap.size ≤ g := Nat.le_trans k.size hs_2
  have ne_gz_g : gz ≠ g := fun e => by have := hgz.lt; omega
  clear hs_2
  replace hS := hS.to k_2
  replace hm := hm.to k_2
  replace hgz := hgz.to k_2
  replace k := k.trans k_2
  clear k_2
  repeat (first | refine wp_seq_region ?_ | refine wp_seq_seq ?_ | refine wp_seq_bregion ?_ | refine wp_seq_bseq ?_ | refine wp_seq_skip ?_ | refine wp_region ?_ | refine r_move (by conv => (lhs; whnf)) ?_ | refine r_assign (by conv => (lhs; whnf)) ?_ | refine r_nil ?_ | refine q_then ?_ | refine wp_block_region ?_ | refine wp_block_seq ?_ | refine wp_block_cond ?_ | refine wp_block_block ?_ | refine wp_block_skip ?_ | refine wp_ret ?_ | refine q_then_ret ?_ | refine q_block_ret ?_ | refine wp_skip ?_ | refine wp_exit ?_ | refine q_then_exit ?_ | refine q_block ?_ | refine q_block_hit rfl ?_ | refine q_block_miss rfl ?_ | refine r_extract rfl rfl ?_ | refine r_len_sl rfl ?_ | refine r_len (by conv => (lhs; whnf)) (by assumption) ?_ | refine r_len_str rfl ?_ | refine r_guard_run rfl rfl ?_ | refine r_guard_skip rfl rfl rfl ?_ | refine r_guard_undef rfl rfl ?_ | refine r_pick_true rfl (by conv => (lhs; whnf)) ?_ | refine r_pick_false rfl (by conv => (lhs; whnf)) ?_ | refine r_lss rfl rfl ?_ | refine r_eql rfl rfl ?_ | refine r_neq rfl rfl ?_ | refine r_gtr rfl rfl ?_ | refine r_geq rfl rfl ?_ | refine r_leq rfl rfl ?_ | refine r_addI rfl rfl (by omega) (by omega) ?_ | refine r_subI rfl rfl (by omega) (by omega) ?_ | refine r_index_sl rfl rfl (by omega) (by omega) ?_ | refine r_index (by conv => (lhs; whnf)) rfl (by assumption) (by omega) (by omega) ?_ | refine r_conv rfl (wrap_i64 (by omega) (by omega)) ?_ | refine r_conv rfl (wrap_u64 (by omega) (by omega)) ?_ | refine r_conv rfl (wrap_u32 (by omega) (by omega)) ?_ | refine r_remP rfl rfl (by omega) (by omega) ?_ | refine r_quoU rfl rfl (by omega) (by omega) (by omega) ?_ | refine r_quoI rfl rfl (by omega) (by omega) (by omega) ?_ | refine r_max rfl rfl ?_ | refine r_min rfl rfl ?_ | refine r_notB rfl ?_ | refine r_not rfl ?_ | refine r_eqlB rfl rfl ?_ | refine r_neqB rfl rfl ?_ | refine r_func ?_ | refine r_field rfl ?_ | refine wp_if_true rfl ?_ | refine wp_if_false rfl ?_ | refine wp_if_yes rfl (by omega) ?_ | refine wp_if_no rfl (by omega) ?_ | refine wp_cond_true rfl ?_ | refine wp_cond_false rfl ?_ | refine wp_cond_yes rfl (by omega) ?_ | refine wp_cond_no rfl (by omega) ?_ | refine r_guard_yes rfl rfl (by omega) ?_ | refine r_guard_no rfl rfl (by omega) ?_ | refine r_nilCheck rfl ?_)
  refine wp_drawn 2 (by kernel_rfl) (by kernel_rfl) ?_
  apply ob_step
  · intro x w1 k1 hd
    first | refine r_load_blk rfl (hgz.to k1) rfl ?_ | refine r_load_all rfl (hgz.to k1) rfl ?_ | refine r_load_part rfl (hgz.to k1) rfl rfl ?_ | refine r_move (by conv => (lhs; whnf)) ?_ | refine r_assign (by conv => (lhs; whnf)) ?_ | refine r_extract rfl rfl ?_ | refine r_len_sl rfl ?_ | refine r_len (by conv => (lhs; whnf)) (by assumption) ?_ | refine r_len_str rfl ?_ | refine r_guard_run rfl rfl ?_ | refine r_guard_skip rfl rfl rfl ?_ | refine r_guard_undef rfl rfl ?_ | refine r_pick_true rfl (by conv => (lhs; whnf)) ?_ | refine r_pick_false rfl (by conv => (lhs; whnf)) ?_ | refine r_lss rfl rfl ?_ | refine r_eql rfl rfl ?_ | refine r_neq rfl rfl ?_ | refine r_gtr rfl rfl ?_ | refine r_geq rfl rfl ?_ | refine r_leq rfl rfl ?_ | refine r_addI rfl rfl (by omega) (by omega) ?_ | refine r_subI rfl rfl (by omega) (by omega) ?_ | refine r_index_sl rfl rfl (by omega) (by omega) ?_ | refine r_index (by conv => (lhs; whnf)) rfl (by assumption) (by omega) (by omega) ?_ | refine r_conv rfl (wrap_i64 (by omega) (by omega)) ?_ | refine r_conv rfl (wrap_u64 (by omega) (by omega)) ?_ | refine r_conv rfl (wrap_u32 (by omega) (by omega)) ?_ | refine r_remP rfl rfl (by omega) (by omega) ?_ | refine r_quoU rfl rfl (by omega) (by omega) (by omega) ?_ | refine r_quoI rfl rfl (by omega) (by omega) (by omega) ?_ | refine r_max rfl rfl ?_ | refine r_min rfl rfl ?_ | refine r_notB rfl ?_ | refine r_not rfl ?_ | refine r_eqlB rfl rfl ?_ | refine r_neqB rfl rfl ?_ | refine r_func ?_ | refine r_field rfl ?_ | refine r_nilCheck rfl ?_
    refine r_nil ?_
    exact ob_eq
  refine ob_step (e := zE S 1) ?_ ?_
  · intro x w1 k1 hd
    refine r_call (zof_c (z := 1) (hS.to k1) (by decide) (by decide)) rfl ?_
    rintro v2 w2 ⟨k2, h2⟩
    exact r_nil (ob_of k2 h2)
  refine ob_nil (ob_end ?_)
  intro x w7 k7 hall
  obtain ⟨m1, hx, h1⟩ : ZV S w7 (x 1) 1 := hall.1
  replace hS := hS.to k7
  replace hm := hm.to k7
  replace hgz := hgz.to k7
  replace hg := hg.to k7
  replace k := k.trans k7
  clear k7
  refine r_build22 (by conv => (lhs; whnf)) hx ?_
  refine r_store4 rfl (by conv => (lhs; whnf)) hg rfl rfl hm.one rfl h1.one ?_
  intro w_4 k_4 h_4
  replace hS := hS.to k_4
  replace hm := hm.wrT k_4 hg (by decide)
  replace hgz := hgz.wr k_4 (by omega)
  replace h1 := h1.wrT k_4 hg (by decide)
  replace k : Ext w w_4 := k.past k_4 hsg
  replace hg := h_4
  clear h_4 k_4
  repeat (first | refine wp_seq_region ?_ | refine wp_seq_seq ?_ | refine wp_seq_bregion ?_ | refine wp_seq_bseq ?_ | refine wp_seq_skip ?_ | refine wp_region ?_ | refine r_move (by conv => (lhs; whnf)) ?_ | refine r_assign (by conv => (lhs; whnf)) ?_ | refine r_nil ?_ | refine q_then ?_ | refine wp_block_region ?_ | refine wp_block_seq ?_ | refine wp_block_cond ?_ | refine wp_block_block ?_ | refine wp_block_skip ?_ | refine wp_ret ?_ | refine q_then_ret ?_ | refine q_block_ret ?_ | refine wp_skip ?_ | refine wp_exit ?_ | refine q_then_exit ?_ | refine q_block ?_ | refine q_block_hit rfl ?_ | refine q_block_miss rfl ?_ | refine r_extract rfl rfl ?_ | refine r_len_sl rfl ?_ | refine r_len (by conv => (lhs; whnf)) (by assumption) ?_ | refine r_len_str rfl ?_ | refine r_guard_run rfl rfl ?_ | refine r_guard_skip rfl rfl rfl ?_ | refine r_guard_undef rfl rfl ?_ | refine r_pick_true rfl (by conv => (lhs; whnf)) ?_ | refine r_pick_false rfl (by conv => (lhs; whnf)) ?_ | refine r_lss rfl rfl ?_ | refine r_eql rfl rfl ?_ | refine r_neq rfl rfl ?_ | refine r_gtr rfl rfl ?_ | refine r_geq rfl rfl ?_ | refine r_leq rfl rfl ?_ | refine r_addI rfl rfl (by omega) (by omega) ?_ | refine r_subI rfl rfl (by omega) (by omega) ?_ | refine r_index_sl rfl rfl (by omega) (by omega) ?_ | refine r_index (by conv => (lhs; whnf)) rfl (by assumption) (by omega) (by omega) ?_ | refine r_conv rfl (wrap_i64 (by omega) (by omega)) ?_ | refine r_conv rfl (wrap_u64 (by omega) (by omega)) ?_ | refine r_conv rfl (wrap_u32 (by omega) (by omega)) ?_ | refine r_remP rfl rfl (by omega) (by omega) ?_ | refine r_quoU rfl rfl (by omega) (by omega) (by omega) ?_ | refine r_quoI rfl rfl (by omega) (by omega) (by omega) ?_ | refine r_max rfl rfl ?_ | refine r_min rfl rfl ?_ | refine r_notB rfl ?_ | refine r_not rfl ?_ | refine r_eqlB rfl rfl ?_ | refine r_neqB rfl rfl ?_ | refine r_func ?_ | refine r_field rfl ?_ | refine wp_if_true rfl ?_ | refine wp_if_false rfl ?_ | refine wp_if_yes rfl (by omega) ?_ | refine wp_if_no rfl (by omega) ?_ | refine wp_cond_true rfl ?_ | refine wp_cond_false rfl ?_ | refine wp_cond_yes rfl (by omega) ?_ | refine wp_cond_no rfl (by omega) ?_ | refine r_guard_yes rfl rfl (by omega) ?_ | refine r_guard_no rfl rfl (by omega) ?_ | refine r_nilCheck rfl ?_)
  exact end1 rfl (resV_agg (by conv => (lhs; whnf)) hg rfl) ⟨k, m, m1, rfl, hm, h1⟩
end Go.Proofs.YtpmnjjmngogkkaaGreatDoor
end

section
set_option linter.unusedVariables false
set_option linter.unusedSimpArgs false
namespace Go.Proofs.YtpmnjjmngogkkaaGreatDoor
open Go Go.RowKit
section rules
variable {P : Program} {n : Nat} {Q : Post} {ρ : Fr} {w : World} {all rest : List Oper} {d : Tmp} {ty : TypeId} {pos : String} {aft : Array Edge}
theorem size_str (l : List UInt8) : (⟨l.toArray⟩ : ByteArray).size = l.length := by show l.toArray.size = _; simp
theorem get_str (l : List UInt8) (i : Nat) : (⟨l.toArray⟩ : ByteArray)[i]? = l[i]? := by
  by_cases h : i < l.length
  · have h2 : i < (⟨l.toArray⟩ : ByteArray).size := by rw [size_str]; exact h
    rw [getElem?_pos _ i h2, List.getElem?_eq_getElem h]
    rfl
  · rw [getElem?_neg _ i (by rw [size_str]; exact h), List.getElem?_eq_none (by omega)]
theorem extract_str (l : List UInt8) (a b : Nat) (hb : b ≤ l.length) : (⟨l.toArray⟩ : ByteArray).extract a b = ⟨((l.take b).drop a).toArray⟩ := by
  apply ByteArray.ext
  rw [ByteArray.data_extract]
  simp [List.drop_take]
/-- s[i] -/
theorem r_indexS {t : TypeId} [st : StrT P t] {x ix : Operand} {l : List UInt8} {k : IntKind} {I : Int} {c : UInt8} (i : Nat) (hx : ev ρ x = strV l) (hi : ev ρ ix = .int k I) (hI : I = (i : Int)) (hc : l[i]? = some c)
    (h : WpR P n all Q rest (upd ρ d (.int .u8 (c.toNat : Nat))) w) : WpR P n all Q (⟨some d, .index t x ix, ty, pos, aft, none⟩ :: rest) ρ w := by
  subst hI
  refine r_val rfl rfl ?_ h
  have h1 : (⟨l.toArray⟩ : ByteArray)[i]? = some c := by rw [get_str]; exact hc
  simp [execOp, hx, hi, Instr.index, asIntOf, run_underlying st.und, h1]
/-- s[k:] -/
theorem r_sliceS_low {t : TypeId} [st : StrT P t] {x lo : Operand} {l : List UInt8} {k : IntKind} {I : Int} (i : Nat) (hx : ev ρ x = strV l) (hi : ev ρ lo = .int k I) (hI : I = (i : Int)) (hl : i ≤ l.length)
    (h : WpR P n all Q rest (upd ρ d (strV (l.drop i))) w) : WpR P n all Q (⟨some d, .slice t x (some lo) none none, ty, pos, aft, none⟩ :: rest) ρ w := by
  subst hI
  refine r_val rfl rfl ?_ h
  have h1 := size_str l
  have h2 := extract_str l i l.length (Nat.le_refl _)
  rw [List.take_of_length_le (Nat.le_refl _)] at h2
  simp [execOp, hx, hi, Instr.sliceAt, Instr.slice, Instr.sliceBounds, Instr.sliceBound, asIntOf, run_underlying st.und, h1, hl, h2]
/-- s[:k] -/
theorem r_sliceS_high {t : TypeId} [st : StrT P t] {x hi : Operand} {l : List UInt8} {k : IntKind} {I : Int} (i : Nat) (hx : ev ρ x = strV l) (hi' : ev ρ hi = .int k I) (hI : I = (i : Int)) (hl : i ≤ l.length)
    (h : WpR P n all Q rest (upd ρ d (strV (l.take i))) w) : WpR P n all Q (⟨some d, .slice t x none (some hi) none, ty, pos, aft, none⟩ :: rest) ρ w := by
  subst hI
  refine r_val rfl rfl ?_ h
  have h1 := size_str l
  have h2 := extract_str l 0 i hl
  rw [List.drop_zero] at h2
  simp [execOp, hx, hi', Instr.sliceAt, Instr.slice, Instr.sliceBounds, Instr.sliceBound, asIntOf, run_underlying st.und, h1, hl, h2]
end rules
end Go.Proofs.YtpmnjjmngogkkaaGreatDoor
end

section
set_option linter.unusedVariables false
set_option linter.unusedSimpArgs false
namespace Go.Proofs.YtpmnjjmngogkkaaGreatDoor
open Go Go.RowKit
/-- What a reading gives: the integer and true, or nothing and false. -/
def Parsed (S : Nat → Prop) (w : World) (v : Value) (s : List UInt8) : Prop :=
  (∃ z vz, s = Lib.itoa z ∧ v = .tuple #[vz, .bool true] ∧ ZV S w vz z) ∨ ((∀ z, s ≠ Lib.itoa z) ∧ v = .tuple #[.agg #[.bool false, .slice none 0 0], .bool false])
/-- D is no numeral behind the sign. -/
def BadD (s : List UInt8) : Prop := Dgs s = [] ∨ ((Dgs s).head? = some 48 ∧ (1 < (Dgs s).length ∨ NegS s))
theorem bad_not {s : List UInt8} (h : BadD s) : ∀ z, s ≠ Lib.itoa z := by
  intro z hz
  obtain ⟨h1, h2⟩ := (num_iff s).1 ⟨z, hz⟩
  rcases h with h | ⟨h, h3⟩
  · exact h1.1 h
  · rcases h3 with h3 | h3
    · have := h1.2.2 h; omega
    · exact h2 h3 h
theorem digit_not {s : List UInt8} {c : UInt8} (hc : c ∈ Dgs s) (h : ¬ Dig c) : ∀ z, s ≠ Lib.itoa z := fun z hz => h (((num_iff s).1 ⟨z, hz⟩).1.2.1 c hc)
theorem good_dec {s : List UInt8} (hb : ¬ BadD s) (hd : ∀ c ∈ Dgs s, Dig c) : DecL (Dgs s) ∧ (NegS s → (Dgs s).head? ≠ some 48) := by
  unfold BadD at hb
  refine ⟨⟨fun h => hb (.inl h), hd, fun h => ?_⟩, fun hn h => hb (.inr ⟨h, .inr hn⟩)⟩
  have h1 : ¬ 1 < (Dgs s).length := fun h1 => hb (.inr ⟨h, .inl h1⟩)
  have h2 : Dgs s ≠ [] := fun h => hb (.inl h)
  have := List.length_pos_iff.2 h2
  omega
set_option maxHeartbeats 2000000 in
theorem zparse_c {S : Nat → Prop} {w : World} {s : List UInt8} (hS : Up S w) (hl : s.length ≤ 140737488351232) :
    Gives Tryz.prog 56 [strV s] w fun v' w' => Ext w w' ∧ Parsed S w' v' s := by
  have hDl := dgs_le s
  refine gives_of Tryz.func56 rfl rfl rfl ?_
  repeat (first | refine wp_seq_region ?_ | refine wp_region ?_)
  refine r_alloc (cs := [.bool false, .slice none 0 0]) rfl ?_
  intro w1 g k1 hg hgs
  repeat (first | refine r_lenS rfl ?_ | refine wp_seq_region ?_ | refine wp_region ?_ | refine r_move (by conv => (lhs; whnf)) ?_ | refine r_assign (by conv => (lhs; whnf)) ?_ | refine r_nil ?_ | refine r_gtr rfl rfl ?_)
  refine r_mid [(12, 16), (4, 4)] (fun ρ w' => ρ 4 = .bool (tst (NegS s)) ∧ w' = w1) ?_ ?_
  · refine r_guard_split rfl rfl ?_ ?_ <;> intro hlt
    · obtain ⟨c, hc⟩ : ∃ c, s[0]? = some c := ⟨s[0], List.getElem?_eq_getElem (by omega)⟩
      repeat (first | refine r_indexS 0 rfl rfl rfl hc ?_ | refine r_move (by conv => (lhs; whnf)) ?_ | refine r_assign (by conv => (lhs; whnf)) ?_ | refine r_nil ?_ | refine q_then ?_ | refine r_guard_run rfl rfl ?_ | refine r_pick_true rfl (by conv => (lhs; whnf)) ?_ | refine r_eql rfl rfl ?_)
      refine ⟨by (repeat (first | refine agree_upd rfl ?_ | exact agree_over | refine agree_sub rfl ?_ | exact agree_refl | refine agree_base rfl ?_ | refine agree_base' rfl ?_)), congrArg Value.bool (tst_congr ?_), rfl⟩
      unfold NegS
      rw [List.head?_eq_getElem?, hc]
      constructor
      · intro h
        congr 1
        apply UInt8.toNat_inj.1
        show c.toNat = 45
        omega
      · intro h
        have := Option.some.inj h
        subst this
        rfl
    · repeat (first | refine r_assign (by conv => (lhs; whnf)) ?_ | refine r_nil ?_ | refine q_then ?_ | refine r_guard_skip rfl rfl rfl ?_ | refine r_pick_false rfl (by conv => (lhs; whnf)) ?_)
      refine ⟨by (repeat (first | refine agree_upd rfl ?_ | exact agree_over | refine agree_sub rfl ?_ | exact agree_refl | refine agree_base rfl ?_ | refine agree_base' rfl ?_)), ?_, rfl⟩
      have h0 : s = [] := List.eq_nil_of_length_eq_zero (by omega)
      rw [tst_false (show ¬ NegS s by rw [h0]; unfold NegS; simp)]
      rfl
  rintro u1 w2 ⟨h4, rfl⟩
  refine wp_learn 4 h4 ?_
  clear h4
  repeat (first | refine wp_seq_region ?_ | refine wp_seq_seq ?_ | refine wp_region ?_ | refine r_move (by conv => (lhs; whnf)) ?_ | refine r_nil ?_ | refine q_then ?_)
  first | refine wp_seq_cond ?_ | refine wp_thenB ?_ | refine wp_thenBB ?_ | skip
  refine wp_join ((0, 0) :: [(0, 0), (18, 19)]) (fun ρ w' => w' = w2 ∧ ρ 0 = strV (Dgs s)) rfl ?_ ?_ ?_
  · intro hn
    have hne : 1 ≤ s.length := by rw [dgs_neg hn]; simp
    repeat (first | refine r_sliceS_low 1 rfl rfl rfl hne ?_ | refine wp_region ?_ | refine r_move (by conv => (lhs; whnf)) ?_ | refine r_assign (by conv => (lhs; whnf)) ?_ | refine r_nil ?_ | refine q_then ?_)
    refine ⟨by (repeat (first | refine agree_upd rfl ?_ | exact agree_over | refine agree_sub rfl ?_ | exact agree_refl | refine agree_base rfl ?_ | refine agree_base' rfl ?_)), rfl, ?_⟩
    unfold Dgs
    rw [if_pos hn]
    rfl
  · intro hn
    repeat (first | refine q_then ?_ | refine wp_skip ?_)
    refine ⟨by (repeat (first | refine agree_upd rfl ?_ | exact agree_over | refine agree_sub rfl ?_ | exact agree_refl | refine agree_base rfl ?_ | refine agree_base' rfl ?_)), rfl, ?_⟩
    rw [dgs_pos hn]
    rfl
  rintro u2 w3 ⟨rfl, h0⟩
  refine wp_learn 0 h0 ?_
  clear h0
  have hbd : BadD s ↔ (Dgs s = [] ∨ ((Dgs s).head? = some 48 ∧ (1 < (Dgs s).length ∨ NegS s))) := Iff.rfl
  obtain ⟨D, hD⟩ : ∃ D, D = Dgs s := ⟨_, rfl⟩
  rw [← hD] at hbd hDl ⊢
  repeat (first | refine wp_seq_region ?_ | refine wp_seq_seq ?_ | refine wp_region ?_ | refine r_move (by conv => (lhs; whnf)) ?_)
  refine r_eqlS (b := []) rfl rfl ?_
  repeat (first | refine r_move (by conv => (lhs; whnf)) ?_)
  refine r_mid [(22, 34)] (fun ρ w' => ρ 34 = .bool (tst (BadD s)) ∧ w' = w3) ?_ ?_
  · refine r_guard_split rfl rfl ?_ ?_ <;> intro hnil
    · repeat (first | refine r_nil ?_ | refine q_then ?_ | refine r_guard_skip rfl rfl rfl ?_ | refine r_guard_undef rfl rfl ?_ | refine r_pick_true rfl (by conv => (lhs; whnf)) ?_)
      exact ⟨by (repeat (first | refine agree_upd rfl ?_ | exact agree_over | refine agree_sub rfl ?_ | exact agree_refl | refine agree_base rfl ?_ | refine agree_base' rfl ?_)), by rw [tst_true (hbd.2 (Or.inl hnil))]; rfl, rfl⟩
    · obtain ⟨c, hc⟩ : ∃ c, D[0]? = some c := ⟨D[0]'(List.length_pos_iff.2 hnil), List.getElem?_eq_getElem _⟩
      have hc48 : (c.toNat : Int) = 48 ↔ D.head? = some 48 := by
        rw [List.head?_eq_getElem?, hc]
        constructor
        · intro h
          congr 1
          apply UInt8.toNat_inj.1
          show c.toNat = 48
          omega
        · intro h
          have := Option.some.inj h
          subst this
          rfl
      repeat (first | refine r_indexS 0 rfl rfl rfl hc ?_ | refine r_move (by conv => (lhs; whnf)) ?_ | refine r_guard_run rfl rfl ?_ | refine r_eql rfl rfl ?_)
      refine r_guard_split rfl rfl ?_ ?_ <;> intro h48
      · repeat (first | refine r_lenS rfl ?_ | refine r_move (by conv => (lhs; whnf)) ?_ | refine r_guard_run rfl rfl ?_ | refine r_gtr rfl rfl ?_)
        refine r_guard_split rfl rfl ?_ ?_ <;> intro h1
        · repeat (first | refine r_nil ?_ | refine q_then ?_ | refine r_guard_run rfl rfl ?_ | refine r_guard_skip rfl rfl rfl ?_ | refine r_pick_true rfl (by conv => (lhs; whnf)) ?_ | refine r_pick_false rfl (by conv => (lhs; whnf)) ?_)
          exact ⟨by (repeat (first | refine agree_upd rfl ?_ | exact agree_over | refine agree_sub rfl ?_ | exact agree_refl | refine agree_base rfl ?_ | refine agree_base' rfl ?_)), by rw [tst_true (hbd.2 (Or.inr ⟨hc48.1 h48, Or.inl (by omega)⟩))]; rfl, rfl⟩
        · repeat (first | refine r_move (by conv => (lhs; whnf)) ?_ | refine r_nil ?_ | refine q_then ?_ | refine r_guard_run rfl rfl ?_ | refine r_pick_true rfl (by conv => (lhs; whnf)) ?_ | refine r_pick_false rfl (by conv => (lhs; whnf)) ?_)
          refine ⟨by (repeat (first | refine agree_upd rfl ?_ | exact agree_over | refine agree_sub rfl ?_ | exact agree_refl | refine agree_base rfl ?_ | refine agree_base' rfl ?_)), congrArg Value.bool (tst_congr ?_), rfl⟩
          rw [hbd]
          exact ⟨fun h => Or.inr ⟨hc48.1 h48, Or.inr h⟩, fun h => h.elim (fun h => absurd h hnil) fun h => h.2.elim (fun h => absurd (by omega) h1) id⟩
      · repeat (first | refine r_nil ?_ | refine q_then ?_ | refine r_guard_run rfl rfl ?_ | refine r_guard_skip rfl rfl rfl ?_ | refine r_guard_undef rfl rfl ?_ | refine r_pick_false rfl (by conv => (lhs; whnf)) ?_)
        refine ⟨by (repeat (first | refine agree_upd rfl ?_ | exact agree_over | refine agree_sub rfl ?_ | exact agree_refl | refine agree_base rfl ?_ | refine agree_base' rfl ?_)), ?_, rfl⟩
        rw [tst_false fun h => (hbd.1 h).elim hnil fun h => h48 (hc48.2 h.1)]
        rfl
  rintro u3 w4 ⟨h34, rfl⟩
  refine wp_learn 34 h34 ?_
  clear h34
  skip
  try refine wp_seq_cond ?_
  refine wp_cond_dec rfl ?_ ?_ <;> intro hbad
  · repeat (first | refine wp_seq_region ?_ | refine wp_region ?_)
    refine r_build0 (cs := [.bool false, .slice none 0 0]) rfl ?_
    refine r_store2 rfl (by conv => (lhs; whnf)) hg rfl rfl ?_
    intro w5 k5 hg5
    repeat (first | refine r_assign (by conv => (lhs; whnf)) ?_ | refine r_nil ?_ | refine q_then ?_ | refine wp_ret ?_ | refine q_then_ret ?_)
    exact end2 rfl (resV_agg (by conv => (lhs; whnf)) hg5 rfl) (resV_tmp (by conv => (lhs; whnf))) ⟨k1.past k5 hgs, .inr ⟨bad_not hbad, rfl⟩⟩
  · repeat (first | refine r_lenS rfl ?_ | refine wp_seq_region ?_ | refine wp_seq_seq ?_ | refine wp_region ?_ | refine r_move (by conv => (lhs; whnf)) ?_ | refine r_assign (by conv => (lhs; whnf)) ?_ | refine r_nil ?_ | refine q_then ?_ | refine wp_skip ?_ | refine r_subI rfl rfl (by omega) (by omega) ?_)
    try refine wp_seq_block ?_
    refine wp_for [(3, 3), (5, 8), (39, 70)] (fun k ρ w' => ∃ (L : List Nat) (v : Value) (limb e : Nat), k ≤ D.length ∧ ρ 8 = .int .i64 ((k : Int) - 1) ∧ ρ 5 = v ∧ ρ 6 = .int .i64 (limb : Int) ∧ ρ 7 = .int .i64 ((10 ^ e : Nat) : Int) ∧ e < 9 ∧ limb < 10 ^ e ∧ k + 9 * L.length + e = D.length ∧
        (∀ c ∈ D.drop k, Dig c) ∧ digV (D.drop k) = nval L + 1000000000 ^ L.length * limb ∧ Digs L ∧ Ext w4 w' ∧ Own w4.heap.size 3 1 w' v L.length (L.map fun d : Nat => .int .i64 d)) D.length
      ⟨[], _, 0, 0, Nat.le_refl _, rfl, rfl, rfl, rfl, by omega, by simp, by simp, by rw [List.drop_of_length_le (Nat.le_refl _)]; simp, by rw [List.drop_of_length_le (Nat.le_refl _)]; simp [digV, nval], digs_nil, .refl, own_nil⟩ ?_
    rintro k u4 w5 ⟨L, v, limb, e, hkD, h8, h5, h6, h7, he9, hlimb, hcnt, hdg, hval, hLd, k5, ho⟩
    refine wp_learn 8 h8 (wp_learn 5 h5 (wp_learn 6 h6 (wp_learn 7 h7 ?_)))
    clear h8 h5 h6 h7
    have hg5 := hg.to k5
    have hp9 : 10 ^ e ≤ 10 ^ 8 := Nat.pow_le_pow_right (by omega) (by omega)
    repeat (first | refine wp_seq_region ?_ | refine wp_seq_seq ?_ | refine wp_region ?_ | refine r_move (by conv => (lhs; whnf)) ?_ | refine r_nil ?_ | refine q_then ?_ | refine r_geq rfl rfl ?_)
    try refine wp_seq_cond ?_
    refine wp_cond_dec rfl ?_ ?_ <;> intro hk
    · obtain ⟨m, rfl⟩ : ∃ m, k = m + 1 := ⟨k - 1, by omega⟩
      obtain ⟨c, hc⟩ : ∃ c, D[m]? = some c := ⟨D[m], List.getElem?_eq_getElem (by omega)⟩
      have hcm : c ∈ D := List.mem_of_getElem? hc
      have hdrop : D.drop m = c :: D.drop (m + 1) := by
        rw [List.drop_eq_getElem_cons (by omega)]
        rw [List.getElem?_eq_getElem (by omega)] at hc
        rw [Option.some.inj hc]
      have hc256 := c.toNat_lt
      repeat (first | refine r_indexS m rfl rfl (by omega) hc ?_ | refine wp_seq_region ?_ | refine wp_seq_seq ?_ | refine wp_seq_bseq ?_ | refine wp_region ?_ | refine r_move (by conv => (lhs; whnf)) ?_ | refine wp_block_seq ?_ | refine wp_skip ?_ | refine r_lss rfl rfl ?_)
      refine r_mid [(47, 52)] (fun ρ w' => ρ 52 = .bool (tst (¬ Dig c)) ∧ w' = w5) ?_ ?_
      · refine r_guard_split rfl rfl ?_ ?_ <;> intro hlo
        · repeat (first | refine r_nil ?_ | refine q_then ?_ | refine r_guard_skip rfl rfl rfl ?_ | refine r_pick_true rfl (by conv => (lhs; whnf)) ?_)
          exact ⟨by (repeat (first | refine agree_upd rfl ?_ | exact agree_over | refine agree_sub rfl ?_ | exact agree_refl | refine agree_base rfl ?_ | refine agree_base' rfl ?_)), by rw [tst_true (show ¬ Dig c from fun h => by unfold Dig at h; omega)]; rfl, rfl⟩
        · repeat (first | refine r_indexS m rfl rfl (by omega) hc ?_ | refine r_move (by conv => (lhs; whnf)) ?_ | refine r_nil ?_ | refine q_then ?_ | refine r_guard_run rfl rfl ?_ | refine r_pick_false rfl (by conv => (lhs; whnf)) ?_ | refine r_gtr rfl rfl ?_)
          refine ⟨by (repeat (first | refine agree_upd rfl ?_ | exact agree_over | refine agree_sub rfl ?_ | exact agree_refl | refine agree_base rfl ?_ | refine agree_base' rfl ?_)), congrArg Value.bool (tst_congr ?_), rfl⟩
          unfold Dig
          omega
      rintro u5 w6 ⟨h52, rfl⟩
      refine wp_learn 52 h52 ?_
      clear h52
      skip
      try refine wp_seq_cond ?_
      refine wp_cond_dec rfl ?_ ?_ <;> intro hnd
      · repeat (first | refine wp_seq_region ?_ | refine wp_region ?_)
        refine r_build0 (cs := [.bool false, .slice none 0 0]) rfl ?_
        refine r_store2 rfl (by conv => (lhs; whnf)) hg5 rfl rfl ?_
        intro w7 k7 hg7
        repeat (first | refine r_assign (by conv => (lhs; whnf)) ?_ | refine r_nil ?_ | refine q_then ?_ | refine wp_ret ?_ | refine q_then_ret ?_ | refine q_block_ret ?_)
        exact end2 rfl (resV_agg (by conv => (lhs; whnf)) hg7 rfl) (resV_tmp (by conv => (lhs; whnf))) ⟨(k1.trans k5).past k7 hgs, .inr ⟨digit_not (hD ▸ hcm) hnd, rfl⟩⟩
      · have hdc : Dig c := Classical.not_not.1 hnd
        have hdc2 : 48 ≤ c.toNat ∧ c.toNat ≤ 57 := hdc
        have hpe : 10 ^ (e + 1) = 10 * 10 ^ e := by rw [Nat.pow_succ, Nat.mul_comm]
        obtain ⟨d, hd⟩ : ∃ d, d = c.toNat - 48 := ⟨_, rfl⟩
        have hmul : 10 ^ e * d ≤ 10 ^ e * 9 := Nat.mul_le_mul_left _ (by omega)
        have hmi : (((10 ^ e : Nat) : Int)) * ((c.toNat : Int) - 48) = ((10 ^ e * d : Nat) : Int) := by
          rw [show (c.toNat : Int) - 48 = (d : Int) by omega]
          exact (Int.natCast_mul ..).symm
        have hnew : digV (D.drop m) = nval L + 1000000000 ^ L.length * (limb + 10 ^ e * d) := by
          rw [hdrop, show c :: D.drop (m + 1) = [c] ++ D.drop (m + 1) from rfl, digV_append, hval, List.length_drop]
          have h1 : digV [c] = d := by rw [hd]; show 10 * 0 + (c.toNat - 48) = _; omega
          have h2 : 10 ^ (D.length - (m + 1)) = 1000000000 ^ L.length * 10 ^ e := by
            rw [show D.length - (m + 1) = 9 * L.length + e by omega, Nat.pow_add, Nat.pow_mul]
          rw [h1, h2, Nat.mul_add, Nat.mul_left_comm, Nat.mul_comm d]
          omega
        have hp8 : e = 8 → 10 ^ e = 100000000 := fun h => by rw [h]
        have hp7 : e ≠ 8 → 10 ^ e ≤ 10000000 := fun h => Nat.pow_le_pow_right (n := 10) (by omega) (by omega : e ≤ 7)
        generalize 10 ^ e = p at *
        have hlimb2 : limb + p * d < 10 * p := by omega
        repeat (first | refine r_indexS m rfl rfl (by omega) hc ?_ | refine r_subB rfl rfl (by omega) (by omega) ?_ | refine r_mulI rfl rfl (by rw [hmi]; omega) (by rw [hmi]; omega) ?_ | refine r_addI rfl rfl (by rw [hmi]; omega) (by rw [hmi]; omega) ?_ | refine r_mulI rfl rfl (by omega) (by omega) ?_ | refine wp_seq_region ?_ | refine wp_region ?_ | refine r_move (by conv => (lhs; whnf)) ?_ | refine r_assign (by conv => (lhs; whnf)) ?_ | refine r_nil ?_ | refine q_then ?_ | refine wp_skip ?_ | refine r_eql rfl rfl ?_ | refine r_conv rfl (wrap_i64 (by omega) (by omega)) ?_)
        rw [hmi]
        have hsum : (limb : Int) + ((p * d : Nat) : Int) = ((limb + p * d : Nat) : Int) := (Int.natCast_add ..).symm
        rw [hsum]
        generalize limb + p * d = x at *
        try refine wp_seq_cond ?_
        refine wp_cond_dec rfl ?_ ?_ <;> intro h9
        · have he8 : e = 8 := by
            rcases Nat.lt_or_ge e 8 with h | h
            · have := hp7 (by omega); omega
            · omega
          have hpv := hp8 he8
          repeat (first | refine wp_seq_region ?_ | refine wp_region ?_ | refine r_move (by conv => (lhs; whnf)) ?_)
          refine r_lit1 (by conv => (lhs; whnf)) rfl ?_
          intro w7 g7 k7 hg7 hgs7
          refine r_append1 (by conv => (lhs; whnf)) (own_to ho k7) rfl hg7 (by omega) rfl (by simp [Value.oneCell']) (by unfold maxLen; omega) (by omega) (by have := k5.size; have := k7.size; omega) ?_
          intro v8 w8 ho8 k8
          have hlen : (L ++ [x]).length = L.length + 1 := by rw [List.length_append]; rfl
          repeat (first | refine wp_region ?_ | refine r_move (by conv => (lhs; whnf)) ?_ | refine r_assign (by conv => (lhs; whnf)) ?_ | refine r_nil ?_ | refine q_then ?_ | refine r_subI rfl rfl (by omega) (by omega) ?_)
          refine ⟨by (repeat (first | refine agree_upd rfl ?_ | exact agree_over | refine agree_sub rfl ?_ | exact agree_refl | refine agree_base rfl ?_ | refine agree_base' rfl ?_)), m, by omega, L ++ [x], v8, 0, 0, by omega, congrArg (Value.int .i64) (by omega), rfl, rfl, rfl, by omega, by omega, by rw [hlen]; omega, ?_, ?_, hLd.append (Digs.cons (by omega) digs_nil), ?_, by simpa using ho8⟩
          · rw [hdrop]
            intro y hy
            rcases List.mem_cons.1 hy with rfl | hy
            · exact hdc
            · exact hdg y hy
          · rw [hnew, hlen, nval_snoc, Nat.mul_zero, Nat.add_zero]
          · exact Keeps.later (k5.trans k7) k8 fun i hi _ e => by have := (ho.lt i e.symm).1; omega
        · have he8 : e ≠ 8 := fun h => h9 (by have := hp8 h; omega)
          repeat (first | refine wp_region ?_ | refine r_move (by conv => (lhs; whnf)) ?_ | refine r_assign (by conv => (lhs; whnf)) ?_ | refine r_nil ?_ | refine q_then ?_ | refine wp_skip ?_ | refine r_subI rfl rfl (by omega) (by omega) ?_)
          refine ⟨by (repeat (first | refine agree_upd rfl ?_ | exact agree_over | refine agree_sub rfl ?_ | exact agree_refl | refine agree_base rfl ?_ | refine agree_base' rfl ?_)), m, by omega, L, v, x, e + 1, by omega, congrArg (Value.int .i64) (by omega), rfl, rfl, ?_, by omega, by rw [hpe]; omega, by omega, ?_, hnew, hLd, k5, ho⟩
          · rw [hpe]; exact congrArg (Value.int .i64) (by omega)
          · rw [hdrop]
            intro y hy
            rcases List.mem_cons.1 hy with rfl | hy
            · exact hdc
            · exact hdg y hy
    · obtain rfl : k = 0 := by omega
      rw [List.drop_zero] at hdg hval
      have hS5 : Up S w5 := hS.to (k1.trans k5)
      have hlimb9 : limb < 1000000000 := by omega
      repeat (first | refine wp_seq_region ?_ | refine wp_seq_seq ?_ | refine wp_region ?_ | refine r_move (by conv => (lhs; whnf)) ?_ | refine r_nil ?_ | refine q_then ?_ | refine wp_exit ?_ | refine r_gtr rfl rfl ?_)
      first | refine wp_seq_cond ?_ | refine wp_thenB ?_ | refine wp_thenBB ?_ | skip
      refine wp_join [(5, 5), (73, 76)] (fun ρ w' => ∃ (L' : List Nat) (v' : Value), ρ 5 = v' ∧ Digs L' ∧ nval L' = digV D ∧ Ext w4 w' ∧ Own w4.heap.size 3 1 w' v' L'.length (L'.map fun d : Nat => .int .i64 d)) rfl ?_ ?_ ?_
      · intro hpos
        repeat (first | refine wp_region ?_ | refine r_move (by conv => (lhs; whnf)) ?_)
        refine r_lit1 (by conv => (lhs; whnf)) rfl ?_
        intro w7 g7 k7 hg7 hgs7
        refine r_append1 (by conv => (lhs; whnf)) (own_to ho k7) rfl hg7 (by omega) rfl (by simp [Value.oneCell']) (by unfold maxLen; omega) (by omega) (by have := k5.size; have := k7.size; omega) ?_
        intro v8 w8 ho8 k8
        have hlen : (L ++ [limb]).length = L.length + 1 := by rw [List.length_append]; rfl
        repeat (first | refine r_assign (by conv => (lhs; whnf)) ?_ | refine r_nil ?_ | refine q_then ?_)
        refine ⟨by (repeat (first | refine agree_upd rfl ?_ | exact agree_over | refine agree_sub rfl ?_ | exact agree_refl | refine agree_base rfl ?_ | refine agree_base' rfl ?_)), L ++ [limb], v8, rfl, hLd.append (Digs.cons (by omega) digs_nil), by rw [nval_snoc, hval], ?_, by rw [hlen]; simpa using ho8⟩
        exact Keeps.later (k5.trans k7) k8 fun i hi _ e => by have := (ho.lt i e.symm).1; omega
      · intro hpos
        repeat (first | refine q_then ?_ | refine wp_skip ?_)
        refine ⟨by (repeat (first | refine agree_upd rfl ?_ | exact agree_over | refine agree_sub rfl ?_ | exact agree_refl | refine agree_base rfl ?_ | refine agree_base' rfl ?_)), L, v, rfl, hLd, ?_, k5, ho⟩
        have : limb = 0 := by omega
        rw [hval, this, Nat.mul_zero, Nat.add_zero]
      rintro u6 w6 ⟨L', v', h5, hLd', hval', k6, ho'⟩
      refine wp_learn 5 h5 ?_
      clear h5 ho
      repeat (first | refine wp_seq_region ?_ | refine wp_region ?_ | refine r_move (by conv => (lhs; whnf)) ?_)
      refine r_call (rtrim_c (S := S) (v := v') (l := L') (Row.of_own ho' (hS.to k1)) hLd') rfl ?_
      rintro v7 w7 ⟨rfl, h7⟩
      rw [hval', hD] at h7
      refine r_call (zInt_c (p := NegS s) (n := digV (Dgs s)) (numV s) h7 ?_ ?_) rfl ?_
      · unfold numV; split <;> omega
      · unfold numV
        split
        · rename_i h; exact ⟨fun h2 => ⟨h, by omega⟩, fun h2 => by omega⟩
        · rename_i h; exact ⟨fun h2 => by omega, fun h2 => absurd h2.1 h⟩
      rintro v8 w8 ⟨k8, m8, rfl, h8⟩
      have hg8 := (hg.to k6).to k8
      skip
      refine r_store2 rfl (by conv => (lhs; whnf)) hg8 rfl h8.one ?_
      intro w9 k9 hg9
      repeat (first | refine r_assign (by conv => (lhs; whnf)) ?_ | refine r_nil ?_ | refine q_then ?_ | refine wp_ret ?_)
      have hgood := good_dec hbad (hD ▸ hdg)
      exact end2 rfl (resV_agg (by conv => (lhs; whnf)) hg9 rfl) (resV_tmp (by conv => (lhs; whnf))) ⟨((k1.trans k6).trans k8).past k9 hgs, .inl ⟨_, _, num_val hgood.1 hgood.2, rfl, m8, rfl, h8.wrT k9 hg8 (by decide)⟩⟩
end Go.Proofs.YtpmnjjmngogkkaaGreatDoor
end

section
set_option linter.unusedVariables false
set_option linter.unusedSimpArgs false
namespace Go.Proofs.YtpmnjjmngogkkaaGreatDoor
open Go Go.RowKit
theorem own_block {base : Nat} {T : TypeId} {w : World} {v : Value} {m : Nat} {xs : List Value} (h : Own base T 1 w v m xs) (hm : 0 < m) :
    ∃ g cap cs, v = .slice (some ⟨g, 0, none⟩) m cap ∧ base ≤ g ∧ Blk w g T cs ∧ cs.take m = xs ∧ m ≤ cs.length ∧ m ≤ cap ∧ cap ≤ maxLen ∧ cap = cs.length := by
  rcases h.2 with ⟨h1, h2⟩ | ⟨g, cap, cur, rfl, hb, hg, h1, h2, h3, h4⟩
  · omega
  · refine ⟨g, cap, cur.toList, rfl, hb, ?_, by simpa using h4, ?_, h1, h2, ?_⟩
    · unfold Blk
      rw [hg]
    · simp at h3 ⊢; omega
    · simp at h3 ⊢; omega
section rules
variable {P : Program} {n : Nat} {Q : Post} {ρ : Fr} {w : World} {all rest : List Oper} {d : Tmp} {ty : TypeId} {pos : String} {aft : Array Edge}
/-- s[:h] of an own slice that is not empty. -/
theorem r_slice_own {t T : TypeId} [st : SlT P t T] {b : Nat} {z : Value} {agg : Bool} [ti : TyI P T 1 b z agg] {x hi : Operand} {base : Nat} {v : Value} {m : Nat} {xs : List Value} {k : Nat} {i : Int}
    (hv : ev ρ x = v) (ho : Own base T 1 w v m xs) (hh : ev ρ hi = .int .i64 i) (hik : i = (k : Int)) (hk : k ≤ m) (hm : 0 < m)
    (h : ∀ v', Own base T 1 w v' k (xs.take k) → WpR P n all Q rest (upd ρ d v') w) : WpR P n all Q (⟨some d, .slice t x none (some hi) none, ty, pos, aft, none⟩ :: rest) ρ w := by
  subst hik
  obtain ⟨g, cap, cs, rfl, hb, hg, h1, h2, h3, h4, h5⟩ := own_block ho hm
  refine r_val (v := .slice (some ⟨g, 0, none⟩) k cap) rfl rfl ?_ (h _ ⟨by rw [← h1]; simp; omega, .inr ⟨g, cap, cs.toArray, rfl, hb, hg, by omega, h4, by simp; omega, ?_⟩⟩)
  · have hk2 : k ≤ cap := by omega
    simp [execOp, hv, hh, Instr.sliceAt, Instr.slice, run_underlying st.und, Instr.sliceBounds, Instr.sliceBound, asIntOf, hk2, ti.runSize w, Addr.add, show ¬ cap = 0 by omega]
  · rw [← h1, List.take_take]
    simp
    omega
end rules
theorem low_take {m v j : Nat} (h : j ≤ m) : (low m v).take j = low j v := by
  obtain ⟨k, rfl⟩ : ∃ k, m = j + k := ⟨m - j, by omega⟩
  rw [low_append, List.take_left' (low_length j v)]
abbrev byt (l : List UInt8) : List Value := Lib.byteCells l
theorem byt_append (a b : List UInt8) : byt (a ++ b) = byt a ++ byt b := by simp [Lib.byteCells]
theorem byt_length (a : List UInt8) : (byt a).length = a.length := by simp [Lib.byteCells]
theorem byt_take (a : List UInt8) (k : Nat) : (byt a).take k = byt (a.take k) := by simp [Lib.byteCells, List.map_take]
theorem byt_digit {x : Nat} (h : x < 10) : Value.int .u8 (48 + (x : Int)) = .int .u8 ((UInt8.ofNat (48 + x)).toNat : Int) := by
  congr 1
  rw [UInt8.toNat_ofNat']
  omega
theorem itoa_rev (z : Int) : (Lib.itoa z).reverse = low (Lib.nDigits z.natAbs) z.natAbs ++ (if z < 0 then [45] else []) := by
  unfold Lib.itoa
  split
  · rw [← dec_low]; simp
  · rw [← dec_low, show z.natAbs = z.toNat by omega]; simp
set_option maxHeartbeats 2000000 in
theorem zstr_c {S : Nat → Prop} {w : World} {v : Value} {z : Int} (h : ZV S w v z) (hl : zl z ≤ 1099511627000) :
    Gives Tryz.prog 17 [v] w fun v' w' => v' = strV (Lib.itoa z) ∧ Ext w w' := by
  obtain ⟨m, rfl, hm⟩ := h
  obtain ⟨n, hn⟩ : ∃ n, n = z.natAbs := ⟨_, rfl⟩
  rw [← hn] at hm
  have hln : (dg n).length ≤ 1099511627000 := by rw [hn]; exact hl
  have hdl : (dg n).length = dl n := rfl
  refine gives_of Tryz.func17 rfl rfl rfl ?_
  repeat (first | refine wp_seq_region ?_ | refine wp_region ?_)
  refine r_box (cs := [.bool (tst (z < 0)), m]) (by conv => (lhs; whnf)) rfl ?_
  intro w1 g k1 hg hgs
  have hm1 := hm.to k1
  have hgl := hg.lt
  clear hm
  repeat (first | refine r_load_blk rfl hg rfl ?_ | refine wp_seq_region ?_ | refine wp_seq_seq ?_ | refine wp_region ?_ | refine r_assign (by conv => (lhs; whnf)) ?_ | refine r_nil ?_ | refine q_then ?_ | refine r_len (by conv => (lhs; whnf)) (by assumption) ?_ | refine r_eql rfl rfl ?_ | refine r_field rfl ?_)
  try refine wp_seq_cond ?_
  refine wp_cond_dec rfl ?_ ?_ <;> intro hc
  · repeat (first | refine wp_seq_region ?_ | refine wp_region ?_ | refine r_assign (by conv => (lhs; whnf)) ?_ | refine r_nil ?_ | refine q_then ?_ | refine wp_ret ?_ | refine q_then_ret ?_)
    refine end_tmp rfl (by conv => (lhs; whnf)) ⟨?_, k1⟩
    have h0 : n = 0 := dl_eq_zero.1 (by omega)
    have hz : z = 0 := by omega
    subst hz
    unfold Lib.itoa
    rw [if_neg (by decide), show (0 : Int).toNat = 0 from rfl, Lib.decDigits_one (by decide)]
    rfl
  · have hn0 : 0 < n := Nat.pos_of_ne_zero fun e => hc (by have := dl_eq_zero.2 e; omega)
    have hD := nDigits_dl hn0
    repeat (first | refine wp_seq_region ?_ | refine wp_seq_seq ?_ | refine wp_region ?_ | refine r_assign (by conv => (lhs; whnf)) ?_ | refine r_nil ?_ | refine q_then ?_ | refine wp_skip ?_)
    try refine wp_seq_block ?_
    refine wp_for [(3, 6), (14, 38)] (fun k ρ w' => ∃ (i : Nat) (v : Value), k + i = (dg n).length ∧ ρ 4 = .int .i64 (i : Int) ∧ ρ 3 = v ∧ Own w1.heap.size 5 1 w' v (9 * i) (byt (low (9 * i) n)) ∧ Ext w1 w') (dg n).length
      ⟨0, _, by omega, rfl, rfl, own_nil, .refl⟩ ?_
    · rintro k u w2 ⟨i, v, hki, h4, h3, ho, k2⟩
      refine wp_learn 4 h4 (wp_learn 3 h3 ?_)
      clear h4 h3
      have hg2 := hg.to k2
      have hm2 := hm1.to k2
      have hdd := dg_lt n i
      repeat (first | refine r_load_blk rfl hg2 rfl ?_ | refine wp_seq_region ?_ | refine wp_seq_seq ?_ | refine wp_region ?_ | refine r_move (by conv => (lhs; whnf)) ?_ | refine r_nil ?_ | refine q_then ?_ | refine r_len (by conv => (lhs; whnf)) (by assumption) ?_ | refine r_lss rfl rfl ?_ | refine r_field rfl ?_)
      try refine wp_seq_cond ?_
      refine wp_cond_dec rfl ?_ ?_ <;> intro hlt
      · repeat (first | refine r_load_blk rfl hg2 rfl ?_ | refine r_index1 (i := i) (by conv => (lhs; whnf)) rfl rfl hm2 (by omega) ?_ | refine r_load_dig rfl hm2 (by omega) ?_ | refine wp_seq_region ?_ | refine wp_seq_bseq ?_ | refine wp_region ?_ | refine r_move (by conv => (lhs; whnf)) ?_ | refine r_assign (by conv => (lhs; whnf)) ?_ | refine r_nil ?_ | refine q_then ?_ | refine wp_block_seq ?_ | refine wp_skip ?_ | refine r_field rfl ?_)
        obtain ⟨d, hd⟩ : ∃ d, d = (dg n).getD i 0 := ⟨_, rfl⟩
        rw [← hd] at hdd ⊢
        try refine wp_seq_block ?_
        refine wp_for [(3, 3), (5, 6), (26, 38)] (fun k ρ w' => ∃ (j : Nat) (v : Value), k + j = 9 ∧ ρ 6 = .int .i64 (j : Int) ∧ ρ 5 = .int .i64 ((d / 10 ^ j : Nat) : Int) ∧ ρ 3 = v ∧ Own w1.heap.size 5 1 w' v (9 * i + j) (byt (low (9 * i) n ++ low j d)) ∧ Ext w1 w') 9
          ⟨0, v, by omega, rfl, by simp; rfl, rfl, by simpa [low] using ho, k2⟩ ?_
        rintro k' u2 w3 ⟨j, v3, hkj, h6, h5, h3, ho3, k3⟩
        refine wp_learn 6 h6 (wp_learn 5 h5 (wp_learn 3 h3 ?_))
        clear h6 h5 h3
        have hdj : d / 10 ^ j ≤ d := Nat.div_le_self ..
        have hdj2 : d / 10 ^ j / 10 = d / 10 ^ (j + 1) := by rw [Nat.div_div_eq_div_mul, Nat.pow_succ]
        have hls := low_succ j d
        obtain ⟨y, hy⟩ : ∃ y, y = d / 10 ^ j := ⟨_, rfl⟩
        rw [← hy] at hdj hdj2 hls ⊢
        repeat (first | refine wp_seq_region ?_ | refine wp_seq_seq ?_ | refine wp_region ?_ | refine r_move (by conv => (lhs; whnf)) ?_ | refine r_nil ?_ | refine q_then ?_ | refine r_lss rfl rfl ?_)
        try refine wp_seq_cond ?_
        refine wp_cond_dec rfl ?_ ?_ <;> intro hj9
        · repeat (first | refine wp_seq_region ?_ | refine wp_seq_bseq ?_ | refine wp_region ?_ | refine r_move (by conv => (lhs; whnf)) ?_ | refine wp_block_seq ?_ | refine wp_skip ?_ | refine r_addI rfl rfl (by omega) (by omega) ?_ | refine r_remP rfl rfl (by omega) (by omega) ?_)
          refine r_conv rfl (wrap_u8 (by omega) (by omega)) ?_
          have hb : Value.int .u8 (48 + (y : Int) % 10) = .int .u8 ((UInt8.ofNat (48 + y % 10)).toNat : Int) := byt_digit (x := y % 10) (by omega)
          refine r_lit1 rfl rfl ?_
          intro w4 g4 k4 hg4 hgs4
          rw [hb] at hg4
          refine r_append1 (by conv => (lhs; whnf)) (own_to ho3 k4) rfl hg4 (by omega) rfl (fun u hu => by rw [List.mem_singleton.1 hu]; rfl) (by unfold maxLen; omega) (by omega) (by have := k3.size; have := k4.size; omega) ?_
          intro v5 w5 ho5 k5
          repeat (first | refine wp_region ?_ | refine r_move (by conv => (lhs; whnf)) ?_ | refine r_assign (by conv => (lhs; whnf)) ?_ | refine r_nil ?_ | refine q_then ?_ | refine r_addI rfl rfl (by omega) (by omega) ?_ | refine r_quoI rfl rfl (by omega) (by omega) (by omega) ?_)
          refine ⟨by (repeat (first | refine agree_upd rfl ?_ | exact agree_over | refine agree_sub rfl ?_ | exact agree_refl | refine agree_base rfl ?_ | refine agree_base' rfl ?_)), 8 - j, by omega, j + 1, v5, by omega, rfl, ?_, rfl, ?_, ?_⟩
          · rw [← hdj2]; exact congrArg (Value.int .i64) (by omega)
          · rw [hls, ← List.append_assoc, byt_append]
            exact ho5
          · exact Keeps.later (k3.trans k4) k5 fun i hi _ e => by have := (ho3.lt i e.symm).1; omega
        · have hj : j = 9 := by omega
          subst hj
          repeat (first | refine wp_region ?_ | refine r_move (by conv => (lhs; whnf)) ?_ | refine r_assign (by conv => (lhs; whnf)) ?_ | refine r_nil ?_ | refine q_then ?_ | refine wp_exit ?_ | refine r_addI rfl rfl (by omega) (by omega) ?_)
          refine ⟨by (repeat (first | refine agree_upd rfl ?_ | exact agree_over | refine agree_sub rfl ?_ | exact agree_refl | refine agree_base rfl ?_ | refine agree_base' rfl ?_)), k - 1, by omega, i + 1, v3, by omega, rfl, rfl, ?_, k3⟩
          rw [low_limb, ← hd]
          exact ho3
      · have hi : i = (dg n).length := by omega
        subst hi
        rw [hdl] at ho
        repeat (first | refine q_then ?_ | refine wp_exit ?_ | refine q_then_exit ?_ | refine q_block_hit rfl ?_)
        try refine wp_seq_block ?_
        refine wp_for ((3, 3) :: [(3, 3), (39, 50)]) (fun k ρ w' => w' = w2 ∧ ∃ (v : Value), ρ 3 = v ∧ Lib.nDigits n ≤ k ∧ k ≤ 9 * dl n ∧ Own w1.heap.size 5 1 w2 v k (byt (low k n))) (9 * dl n)
          ⟨rfl, v, rfl, hD, Nat.le_refl _, ho⟩ ?_
        rintro M u3 w3 ⟨rfl, v3, h3, hMl, hMh, ho3⟩
        refine wp_learn 3 h3 ?_
        clear h3 ho
        have hDp := Lib.nDigits_pos n
        have hr3 : Row All 5 1 w3 v3 M (byt (low M n)) := Row.of_own ho3 Up.all
        have hget : (byt (low M n))[M - 1]? = some (.int .u8 (48 + ((n / 10 ^ (M - 1) % 10 : Nat) : Int))) := by
          rw [byt_digit (by omega)]
          unfold byt Lib.byteCells
          rw [List.getElem?_map, low_get (by omega)]
          rfl
        repeat (first | refine r_len (by conv => (lhs; whnf)) hr3 ?_ | refine r_index1 (i := M - 1) (by conv => (lhs; whnf)) rfl (by omega) hr3 (by omega) ?_ | refine wp_seq_region ?_ | refine wp_seq_seq ?_ | refine wp_region ?_ | refine r_move (by conv => (lhs; whnf)) ?_ | refine r_subI rfl rfl (by omega) (by omega) ?_)
        refine r_load_row rfl hr3 hget ?_
        repeat (first | refine r_nil ?_ | refine q_then ?_ | refine r_eql rfl rfl ?_)
        try refine wp_seq_cond ?_
        refine wp_cond_dec rfl ?_ ?_ <;> intro hz
        · have hMD : Lib.nDigits n ≤ M - 1 := by
            rcases Nat.lt_or_ge (Lib.nDigits n) M with h | h
            · omega
            · exfalso
              have := high_digit hn0
              rw [show Lib.nDigits n - 1 = M - 1 by omega] at this
              omega
          repeat (first | refine r_len (by conv => (lhs; whnf)) hr3 ?_ | refine wp_region ?_ | refine r_move (by conv => (lhs; whnf)) ?_ | refine q_then ?_ | refine wp_block_region ?_ | refine wp_skip ?_ | refine r_subI rfl rfl (by omega) (by omega) ?_)
          refine r_slice_own (k := M - 1) (by conv => (lhs; whnf)) ho3 rfl (by omega) (by omega) (by omega) ?_
          intro v4 ho4
          rw [byt_take, low_take (by omega)] at ho4
          repeat (first | refine r_assign (by conv => (lhs; whnf)) ?_ | refine r_nil ?_ | refine q_then ?_ | refine q_block ?_)
          exact ⟨by (repeat (first | refine agree_upd rfl ?_ | exact agree_over | refine agree_sub rfl ?_ | exact agree_refl | refine agree_base rfl ?_ | refine agree_base' rfl ?_)), M - 1, by omega, rfl, v4, rfl, hMD, by omega, ho4⟩
        · have hMD : M = Lib.nDigits n := by
            rcases Nat.lt_or_ge (Lib.nDigits n) M with h | h
            · exact absurd (by have := digit_above (n := n) (k := M - 1) (by omega); omega) hz
            · omega
          subst hMD
          have hg3 := hg.to k2
          have hrev := itoa_rev z
          rw [← hn] at hrev
          repeat (first | refine r_load_blk rfl hg3 rfl ?_ | refine wp_seq_region ?_ | refine wp_seq_seq ?_ | refine wp_region ?_ | refine r_nil ?_ | refine q_then ?_ | refine wp_exit ?_ | refine r_field rfl ?_)
          first | refine wp_seq_cond ?_ | refine wp_thenB ?_ | refine wp_thenBB ?_ | skip
          refine wp_join [(3, 3), (53, 55)] (fun ρ w' => ∃ v, ρ 3 = v ∧ Own w1.heap.size 5 1 w' v (Lib.itoa z).length (byt (Lib.itoa z).reverse) ∧ Ext w1 w') rfl ?_ ?_ ?_
          · intro hneg
            rw [if_pos hneg] at hrev
            have hlen : (Lib.itoa z).length = Lib.nDigits n + 1 := by
              have := congrArg List.length hrev
              simpa [low_length] using this
            rw [hrev, hlen, byt_append]
            repeat (first | refine wp_region ?_ | refine r_move (by conv => (lhs; whnf)) ?_)
            refine r_lit1 rfl rfl ?_
            intro w4 g4 k4 hg4 hgs4
            refine r_append1 (by conv => (lhs; whnf)) (own_to ho3 k4) rfl hg4 (by omega) rfl (fun u hu => by rw [List.mem_singleton.1 hu]; rfl) (by unfold maxLen; omega) (by omega) (by have := k2.size; have := k4.size; omega) ?_
            intro v5 w5 ho5 k5
            repeat (first | refine r_assign (by conv => (lhs; whnf)) ?_ | refine r_nil ?_ | refine q_then ?_)
            refine ⟨by (repeat (first | refine agree_upd rfl ?_ | exact agree_over | refine agree_sub rfl ?_ | exact agree_refl | refine agree_base rfl ?_ | refine agree_base' rfl ?_)), v5, rfl, ho5, ?_⟩
            exact Keeps.later (k2.trans k4) k5 fun i hi _ e => by have := (ho3.lt i e.symm).1; omega
          · intro hneg
            rw [if_neg hneg, List.append_nil] at hrev
            have hlen : (Lib.itoa z).length = Lib.nDigits n := by
              have := congrArg List.length hrev
              simpa [low_length] using this
            rw [hrev, hlen]
            repeat (first | refine q_then ?_ | refine wp_skip ?_)
            exact ⟨by (repeat (first | refine agree_upd rfl ?_ | exact agree_over | refine agree_sub rfl ?_ | exact agree_refl | refine agree_base rfl ?_ | refine agree_base' rfl ?_)), v3, rfl, ho3, k2⟩
          rintro u4 w4 ⟨v4, h4, ho4, k4⟩
          refine wp_learn 3 h4 ?_
          clear h4 ho3 hr3 hget
          obtain ⟨X, hX⟩ : ∃ X, X = Lib.itoa z := ⟨_, rfl⟩
          rw [← hX] at ho4 ⊢
          have hX0 : 0 < X.length := by
            have := congrArg List.length hrev
            rw [← hX] at this
            simp [low_length] at this
            omega
          have hXb : X.length ≤ 9 * dl n + 1 := by
            have := congrArg List.length hrev
            rw [← hX] at this
            simp [low_length] at this
            split at this <;> simp at this <;> omega
          obtain ⟨gb, cap, cs, rfl, hgb, hb4, htk, hcl, hcap, hmx, hce⟩ := own_block ho4 hX0
          have hc0 : ∀ p, p < X.length → cs[p]? = (byt X)[X.length - 1 - p]? := by
            intro p hp
            have h1 : cs[p]? = (cs.take X.length)[p]? := by rw [List.getElem?_take, if_pos hp]
            rw [h1, htk]
            unfold byt Lib.byteCells
            rw [List.getElem?_map, List.getElem?_map, List.getElem?_reverse hp]
          repeat (first | refine wp_seq_region ?_ | refine wp_seq_seq ?_ | refine wp_region ?_ | refine r_move (by conv => (lhs; whnf)) ?_ | refine r_assign (by conv => (lhs; whnf)) ?_ | refine r_nil ?_ | refine q_then ?_ | refine r_len_sl rfl ?_ | refine r_subI rfl rfl (by omega) (by omega) ?_)
          try refine wp_seq_block ?_
          refine wp_for [(7, 9), (59, 80)] (fun k ρ w' => ∃ (i : Nat) (cs' : List Value), k + i = X.length ∧ ρ 7 = .int .i64 (i : Int) ∧ ρ 8 = .int .i64 ((X.length : Int) - 1 - i) ∧ 2 * i ≤ X.length + 1 ∧ cs'.length = cs.length ∧
              (∀ p, p < X.length → cs'[p]? = if p < i ∨ X.length ≤ p + i then (byt X)[p]? else (byt X)[X.length - 1 - p]?) ∧ Blk w' gb 5 cs' ∧ Keeps (fun k => k ≠ gb) w4 w') X.length
            ⟨0, cs, by omega, rfl, congrArg (Value.int .i64) (by omega), by omega, rfl, fun p hp => by rw [if_neg (by omega)]; exact hc0 p hp, hb4, .refl⟩ ?_
          rintro k5 u5 w5 ⟨i, cs', hki5, h7, h8, hii, hcl', hcs', hb5, k5b⟩
          refine wp_learn 7 h7 (wp_learn 8 h8 ?_)
          clear h7 h8 hb4
          repeat (first | refine wp_seq_region ?_ | refine wp_seq_seq ?_ | refine wp_region ?_ | refine r_move (by conv => (lhs; whnf)) ?_ | refine r_nil ?_ | refine q_then ?_ | refine r_lss rfl rfl ?_)
          try refine wp_seq_cond ?_
          refine wp_cond_dec rfl ?_ ?_ <;> intro hij
          · obtain ⟨j, hj⟩ : ∃ j, j + i + 1 = X.length := ⟨X.length - 1 - i, by omega⟩
            have hxl : (byt X).length = X.length := byt_length X
            have hei : cs'[i]? = some ((byt X)[j]'(by omega)) := by
              rw [hcs' i (by omega), if_neg (by omega), show X.length - 1 - i = j by omega, List.getElem?_eq_getElem]
            have hej : cs'[j]? = some ((byt X)[i]'(by omega)) := by
              rw [hcs' j (by omega), if_neg (by omega), show X.length - 1 - j = i by omega, List.getElem?_eq_getElem]
            have one : ∀ q (hq : q < (byt X).length), ((byt X)[q]).oneCell' = true := by
              intro q hq
              simp [Lib.byteCells, Value.oneCell']
            repeat (first | refine r_index_own (i := i) rfl rfl rfl (by omega) ?_ | refine wp_seq_region ?_ | refine wp_seq_bseq ?_ | refine wp_region ?_ | refine r_move (by conv => (lhs; whnf)) ?_ | refine wp_block_seq ?_ | refine wp_skip ?_)
            refine r_load_blk rfl hb5 hei ?_
            repeat (first | refine r_index_own (i := i) rfl rfl rfl (by omega) ?_ | refine r_index_own (i := j) rfl rfl (by omega) (by omega) ?_ | refine r_load_blk rfl hb5 hej ?_ | refine wp_seq_region ?_ | refine wp_region ?_ | refine r_move (by conv => (lhs; whnf)) ?_ | refine r_assign (by conv => (lhs; whnf)) ?_ | refine r_nil ?_)
            refine r_store rfl rfl hb5 (by omega) (one _ _) ?_
            intro w6 k6 hb6
            repeat (first | refine r_index_own (i := j) rfl rfl (by omega) (by omega) ?_ | refine wp_region ?_ | refine r_move (by conv => (lhs; whnf)) ?_ | refine r_nil ?_)
            refine r_store rfl rfl hb6 (by simp; omega) (one _ _) ?_
            intro w7 k7 hb7
            repeat (first | refine wp_region ?_ | refine r_move (by conv => (lhs; whnf)) ?_ | refine r_assign (by conv => (lhs; whnf)) ?_ | refine r_nil ?_ | refine q_then ?_ | refine r_addI rfl rfl (by omega) (by omega) ?_ | refine r_subI rfl rfl (by omega) (by omega) ?_)
            refine ⟨by (repeat (first | refine agree_upd rfl ?_ | exact agree_over | refine agree_sub rfl ?_ | exact agree_refl | refine agree_base rfl ?_ | refine agree_base' rfl ?_)), k5 - 1, by omega, i + 1, _, by omega, rfl, congrArg (Value.int .i64) (by omega), by omega, by simpa using hcl', fun p hp => ?_, hb7, (k5b.trans k6).trans k7⟩
            by_cases e1 : p = j
            · subst e1
              rw [List.getElem?_set_self (by simp; omega), if_pos (by omega)]
              exact (List.getElem?_eq_getElem (by omega)).symm
            · rw [List.getElem?_set_ne (by omega)]
              by_cases e2 : p = i
              · subst e2
                rw [List.getElem?_set_self (by omega), if_pos (by omega)]
                exact (List.getElem?_eq_getElem (by omega)).symm
              · rw [List.getElem?_set_ne (by omega), hcs' p hp]
                by_cases e3 : p < i ∨ X.length ≤ p + i
                · rw [if_pos e3, if_pos (by omega)]
                · rw [if_neg e3, if_neg (by omega)]
          · repeat (first | refine wp_seq_region ?_ | refine wp_region ?_ | refine r_move (by conv => (lhs; whnf)) ?_ | refine wp_exit ?_)
            refine r_convw (v := strV X) (by conv => (lhs; whnf)) (run_convert_bytes_back _ _ _ 5 _ _ X (inferInstance : SlT Tryz.prog _ 5).und (inferInstance : IntT Tryz.prog 5 _).und (inferInstance : StrT Tryz.prog _).und ?_) ?_
            · intro p hp
              have h9 := hcs' p hp
              have h10 : cs'[p]? = (byt X)[p]? := by
                rw [h9]
                split
                · rfl
                · congr 1; omega
              have ha : (⟨gb, 0, none⟩ : Addr).add p = ⟨gb, p, none⟩ := by
                unfold Addr.add
                split <;> simp_all
              rw [ha]
              refine hb5.cell ?_
              rw [h10]
              unfold byt Lib.byteCells
              rw [List.getElem?_map, List.getElem?_eq_getElem hp]
              rfl
            · repeat (first | refine r_assign (by conv => (lhs; whnf)) ?_ | refine r_nil ?_ | refine q_then ?_ | refine wp_ret ?_)
              refine end_tmp rfl (by conv => (lhs; whnf)) ⟨rfl, ?_⟩
              exact k1.trans (Keeps.later k4 k5b fun i hi _ => by omega)
end Go.Proofs.YtpmnjjmngogkkaaGreatDoor
end

section
set_option linter.unusedVariables false
set_option linter.unusedSimpArgs false
namespace Go.Proofs.YtpmnjjmngogkkaaGreatDoor
open Go Go.RowKit
theorem itoa_nat (n : Nat) : Lib.itoa (n : Int) = Lib.decDigits n := by
  unfold Lib.itoa
  rw [if_neg (by omega), show ((n : Int)).toNat = n from rfl]
theorem zform_c {S : Nat → Prop} {w : World} {v : Value} {q : Rat} (hS : Up S w) (h : QV S w v q) (hl : rl q 400000000000) :
    Gives Tryz.prog 87 [v] w fun v' w' => v' = strV (rstr q) ∧ Ext w w' := by
  obtain ⟨m, b, rfl, hm, hb⟩ := h
  obtain ⟨hl1, hl2⟩ := hl
  have hz : zl (q.den : Int) ≤ 400000000000 := by unfold zl; rw [Int.natAbs_natCast]; exact hl2
  have hn1 := nDigits_le_dl _ hl1
  have hn2 := nDigits_le_dl _ hl2
  have hi := itoa_length q.num
  refine gives_of Tryz.func87 rfl rfl rfl ?_
  repeat (first | refine wp_seq_region ?_ | refine wp_region ?_)
  refine r_box (cs := [.bool (tst (q.num < 0)), m, .bool (tst ((q.den : Int) < 0)), b]) (by conv => (lhs; whnf)) rfl ?_
  intro w1 g k1 hg hgs
  replace hm := hm.to k1
  replace hb := hb.to k1
  replace hS := hS.to k1
  repeat (first | refine wp_seq_region ?_ | refine wp_seq_seq ?_ | refine r_assign (by conv => (lhs; whnf)) ?_ | refine r_nil ?_)
  refine wp_drawn 4 (by kernel_rfl) (by kernel_rfl) ?_
  apply ob_step
  · intro x w1 k1 hd
    refine r_field rfl ?_
    refine r_nil ?_
    exact ob_eq
  apply ob_step
  · intro x w1 k1 hd
    refine r_load_part rfl (hg.to k1) rfl rfl ?_
    refine r_nil ?_
    exact ob_eq
  refine ob_step (e := zE S 1) ?_ ?_
  · intro x w1 k1 hd
    refine r_call (zof_c (z := 1) (hS.to k1) (by decide) (by decide)) rfl ?_
    rintro v2 w2 ⟨k2, h2⟩
    exact r_nil (ob_of k2 h2)
  refine ob_step (e := Ent.eq (.int .i64 ((q.den : Int) - 1).sign)) ?_ ?_
  · intro x w1 k1 hd
    refine r_call (zcmp_c (a := (q.den : Int)) (b := 1) (hS.to k1) ⟨b, rfl, hb.to k1⟩ hd.1 (by omega) (Nat.le_trans (dl_le (k := 1) (by decide)) (by decide))) rfl ?_
    rintro v2 w2 ⟨rfl, k2⟩
    exact r_nil (ob_eq_to k2)
  refine ob_nil (ob_end ?_)
  intro x w2 k2 _
  replace hm := hm.to k2
  replace hb := hb.to k2
  replace hg := hg.to k2
  have k := k1.trans k2
  have hd1 : q.den = 1 ↔ ((q.den : Int) - 1).sign = 0 := by rw [Int.sign_eq_zero_iff_zero]; omega
  clear k1 k2
  repeat (first | refine r_nil ?_ | refine q_then ?_ | refine r_eql rfl rfl ?_)
  try refine wp_seq_cond ?_
  refine wp_cond_dec rfl ?_ ?_ <;> intro hc
  · repeat (first | refine r_load_part rfl hg rfl rfl ?_ | refine wp_seq_region ?_ | refine wp_region ?_ | refine r_field rfl ?_)
    refine r_call (zstr_c (z := q.num) ⟨m, rfl, hm⟩ (by unfold zl; omega)) rfl ?_
    rintro v3 w3 ⟨rfl, k3⟩
    repeat (first | refine r_assign (by conv => (lhs; whnf)) ?_ | refine r_nil ?_ | refine q_then ?_ | refine wp_ret ?_ | refine q_then_ret ?_)
    refine end_tmp rfl (by conv => (lhs; whnf)) ⟨?_, k.trans k3⟩
    unfold rstr
    rw [if_pos (hd1.2 hc), List.append_nil]
  · repeat (first | refine wp_seq_region ?_ | refine wp_skip ?_)
    refine wp_drawn 8 (by kernel_rfl) (by kernel_rfl) ?_
    apply ob_step
    · intro x w1 k1 hd
      refine r_field rfl ?_
      refine r_nil ?_
      exact ob_eq
    apply ob_step
    · intro x w1 k1 hd
      refine r_load_part rfl (hg.to k1) rfl rfl ?_
      refine r_nil ?_
      exact ob_eq
    refine ob_step (e := Ent.eq (strV (Lib.itoa q.num))) ?_ ?_
    · intro x w1 k1 hd
      refine r_call (zstr_c (z := q.num) ⟨m, rfl, hm.to k1⟩ (by unfold zl; omega)) rfl ?_
      rintro v2 w2 ⟨rfl, k2⟩
      exact r_nil (ob_eq_to k2)
    apply ob_step
    · intro x w1 k1 hd
      refine r_cat (b := [47]) rfl rfl (by simp; omega) ?_
      refine r_nil ?_
      exact ob_eq
    apply ob_step
    · intro x w1 k1 hd
      refine r_field rfl ?_
      refine r_nil ?_
      exact ob_eq
    apply ob_step
    · intro x w1 k1 hd
      refine r_load_part rfl (hg.to k1) rfl rfl ?_
      refine r_nil ?_
      exact ob_eq
    refine ob_step (e := Ent.eq (strV (Lib.itoa (q.den : Int)))) ?_ ?_
    · intro x w1 k1 hd
      refine r_call (zstr_c (z := (q.den : Int)) ⟨b, rfl, hb.to k1⟩ (by omega)) rfl ?_
      rintro v2 w2 ⟨rfl, k2⟩
      exact r_nil (ob_eq_to k2)
    apply ob_step
    · intro x w1 k1 hd
      refine r_cat rfl rfl (by rw [itoa_nat, Lib.decDigits_length]; simp; omega) ?_
      refine r_nil ?_
      exact ob_eq
    refine ob_nil (ob_end ?_)
    intro x3 w3 k3 _
    repeat (first | refine r_assign (by conv => (lhs; whnf)) ?_ | refine r_nil ?_ | refine q_then ?_ | refine wp_ret ?_)
    refine end_tmp rfl (by conv => (lhs; whnf)) ⟨?_, k.trans k3⟩
    unfold rstr
    rw [if_neg (fun h => hc (hd1.1 h)), itoa_nat, List.append_assoc]
    rfl
theorem whole_l {S : Nat → Prop} {w : World} {va vz : Value} {a z : Int} (hS : Up S w) (ht : Tab w) (ha : IntV S 127 .u32 w va a) (hz : ZV S w vz z) (hla : zl a ≤ 400000000000) (hlz : zl z ≤ 400000000000) :
    Gives Tryz.prog 12 [va, vz] w fun v' w' => v' = .bool (tst (Lib.itoa a = Lib.itoa z)) ∧ Ext w w' := by
  obtain ⟨ma, rfl, hma⟩ := ha
  obtain ⟨mz, rfl, hmz⟩ := hz
  refine gives_of Tryz.func12 rfl rfl rfl ?_
  repeat (first | refine wp_seq_region ?_ | refine wp_region ?_)
  refine r_box (cs := [.bool (tst (a < 0)), ma]) (by conv => (lhs; whnf)) rfl ?_
  intro w1 ga k1 hga hgsa
  skip
  refine r_box (cs := [.bool (tst (z < 0)), mz]) (by conv => (lhs; whnf)) rfl ?_
  intro w2 gb k2 hgb hgsb
  replace hga := hga.to k2
  have k := k1.trans k2
  replace hma := hma.to k
  replace hmz := hmz.to k
  replace ht := ht.to k
  clear k1 k2
  repeat (first | refine wp_seq_region ?_ | refine r_assign (by conv => (lhs; whnf)) ?_ | refine r_nil ?_)
  refine wp_drawn 5 (by kernel_rfl) (by kernel_rfl) ?_
  apply ob_step
  · intro x w1 k1 hd
    refine r_load_all rfl (hga.to k1) rfl ?_
    refine r_nil ?_
    exact ob_eq
  refine ob_step (e := Ent.eq (strV (Lib.itoa a))) ?_ ?_
  · intro x w1 k1 hd
    refine r_call (istr_c (ht.to k1) ⟨ma, rfl, hma.to k1⟩ (by omega)) rfl ?_
    rintro v2 w2 ⟨rfl, k2⟩
    exact r_nil (ob_eq_to k2)
  apply ob_step
  · intro x w1 k1 hd
    refine r_load_all rfl (hgb.to k1) rfl ?_
    refine r_nil ?_
    exact ob_eq
  refine ob_step (e := Ent.eq (strV (Lib.itoa z))) ?_ ?_
  · intro x w1 k1 hd
    refine r_call (zstr_c ⟨mz, rfl, hmz.to k1⟩ (by omega)) rfl ?_
    rintro v2 w2 ⟨rfl, k2⟩
    exact r_nil (ob_eq_to k2)
  apply ob_step
  · intro x w1 k1 hd
    refine r_eqlS rfl rfl ?_
    refine r_nil ?_
    exact ob_eq
  refine ob_nil (ob_end ?_)
  intro x w3 k3 _
  repeat (first | refine r_assign (by conv => (lhs; whnf)) ?_ | refine r_nil ?_ | refine q_then ?_ | refine wp_ret ?_)
  exact end_tmp rfl (by conv => (lhs; whnf)) ⟨rfl, k.trans k3⟩
theorem is_l {S : Nat → Prop} {w : World} {va vz : Value} {a q : Rat} (hS : Up S w) (ht : Tab w) (ha : RatV S w va a) (hq : QV S w vz q) (hla : rl a 400000000000) (hlq : rl q 400000000000) :
    Gives Tryz.prog 21 [va, vz] w fun v' w' => v' = .bool (tst (rstr a = rstr q)) ∧ Ext w w' := by
  have ha0 := ha
  have hq0 := hq
  obtain ⟨ma, ba, rfl, hma, hba⟩ := ha
  obtain ⟨mq, bq, rfl, hmq, hbq⟩ := hq
  refine gives_of Tryz.func21 rfl rfl rfl ?_
  repeat (first | refine wp_seq_region ?_ | refine wp_region ?_)
  refine r_box (cs := [.bool (tst (a.num < 0)), ma, ba]) (by conv => (lhs; whnf)) rfl ?_
  intro w1 ga k1 hga hgsa
  skip
  refine r_box (cs := [.bool (tst (q.num < 0)), mq, .bool (tst ((q.den : Int) < 0)), bq]) (by conv => (lhs; whnf)) rfl ?_
  intro w2 gb k2 hgb hgsb
  replace hga := hga.to k2
  have k := k1.trans k2
  replace ha0 := ha0.to k
  replace hq0 := hq0.to k
  replace ht := ht.to k
  replace hS := hS.to k
  clear k1 k2
  repeat (first | refine wp_seq_region ?_ | refine r_assign (by conv => (lhs; whnf)) ?_ | refine r_nil ?_)
  refine wp_drawn 5 (by kernel_rfl) (by kernel_rfl) ?_
  apply ob_step
  · intro x w1 k1 hd
    refine r_load_all rfl (hga.to k1) rfl ?_
    refine r_nil ?_
    exact ob_eq
  refine ob_step (e := Ent.eq (strV (rstr a))) ?_ ?_
  · intro x w1 k1 hd
    refine r_call (rstr_c (ht.to k1) (ha0.to k1) hla) rfl ?_
    rintro v2 w2 ⟨rfl, k2⟩
    exact r_nil (ob_eq_to k2)
  apply ob_step
  · intro x w1 k1 hd
    refine r_load_all rfl (hgb.to k1) rfl ?_
    refine r_nil ?_
    exact ob_eq
  refine ob_step (e := Ent.eq (strV (rstr q))) ?_ ?_
  · intro x w1 k1 hd
    refine r_call (zform_c (hS.to k1) (hq0.to k1) hlq) rfl ?_
    rintro v2 w2 ⟨rfl, k2⟩
    exact r_nil (ob_eq_to k2)
  apply ob_step
  · intro x w1 k1 hd
    refine r_eqlS rfl rfl ?_
    refine r_nil ?_
    exact ob_eq
  refine ob_nil (ob_end ?_)
  intro x w3 k3 _
  repeat (first | refine r_assign (by conv => (lhs; whnf)) ?_ | refine r_nil ?_ | refine q_then ?_ | refine wp_ret ?_)
  exact end_tmp rfl (by conv => (lhs; whnf)) ⟨rfl, k.trans k3⟩
end Go.Proofs.YtpmnjjmngogkkaaGreatDoor
end

section
set_option linter.unusedVariables false
set_option linter.unusedSimpArgs false
namespace Go.Proofs.YtpmnjjmngogkkaaGreatDoor
open Go Go.RowKit
/-- A reading, as a variable keeps it. -/
def PC (S : Nat → Prop) (w : World) (b m : Value) (vb : Bool) (s : List UInt8) : Prop :=
  b.oneCell' = true ∧ m.oneCell' = true ∧ ((vb = true ∧ ∃ n, s = Lib.itoa n ∧ ZV S w (.agg #[b, m]) n) ∨ (vb = false ∧ ∀ z, s ≠ Lib.itoa z))
theorem PC.to {S : Nat → Prop} {w w' : World} {b m : Value} {vb : Bool} {s : List UInt8} (h : PC S w b m vb s) (k : Ext w w') : PC S w' b m vb s :=
  ⟨h.1, h.2.1, h.2.2.imp (fun ⟨e, n, h1, h2⟩ => ⟨e, n, h1, h2.to k⟩) id⟩
theorem Parsed.pc {S : Nat → Prop} {w : World} {v : Value} {s : List UInt8} (h : Parsed S w v s) : ∃ b m vb, v = .tuple #[.agg #[b, m], .bool vb] ∧ PC S w b m vb s := by
  rcases h with ⟨z, vz, hz, rfl, m, rfl, hm⟩ | ⟨hz, rfl⟩
  · exact ⟨_, _, _, rfl, rfl, hm.one, .inl ⟨rfl, z, hz, m, rfl, hm⟩⟩
  · exact ⟨_, _, _, rfl, rfl, rfl, .inr ⟨rfl, hz⟩⟩
/-- What a reading gives: the fraction and true, or nothing and false. -/
def ReadR (S : Nat → Prop) (w : World) (v : Value) (s : List UInt8) : Prop :=
  (∃ q vq, s = rstr q ∧ v = .tuple #[vq, .bool true] ∧ QV S w vq q) ∨ ((∀ q, s ≠ rstr q) ∧ v = .tuple #[.agg #[.bool false, .slice none 0 0, .bool false, .slice none 0 0], .bool false])
theorem cut_bad {a b : List UInt8} (ha : (47 : UInt8) ∉ a) (h : (∀ z, a ≠ Lib.itoa z) ∨ (∀ z, b ≠ Lib.itoa z)) : ∀ q, a ++ 47 :: b ≠ rstr q := fun q hq => by
  obtain ⟨_, h1, h2⟩ := (rstr_cut ha q).1 hq
  rcases h with h | h
  · exact h _ h1
  · exact h (q.den : Int) (by rw [h2, itoa_nat])
theorem cut_good {a b : List UInt8} (ha : (47 : UInt8) ∉ a) {n d : Int} (hn : a = Lib.itoa n) (hd : b = Lib.itoa d) (h0 : 0 < d) (h1 : d ≠ 1) (hg : Int.gcd n d = 1) : ∃ q : Rat, q.num = n ∧ (q.den : Int) = d ∧ a ++ 47 :: b = rstr q := by
  obtain ⟨q, h2, h3⟩ := rat_of n (d := d.natAbs) (by omega) hg
  have h4 : (q.den : Int) = d := by omega
  exact ⟨q, h2, h4, (rstr_cut ha q).2 ⟨by omega, by rw [hn, h2], by rw [hd, ← h4, itoa_nat]⟩⟩
theorem cut_bad2 {a b : List UInt8} (ha : (47 : UInt8) ∉ a) {n d : Int} (hn : a = Lib.itoa n) (hd : b = Lib.itoa d) (h : d ≤ 0 ∨ d = 1 ∨ Int.gcd n d ≠ 1) : ∀ q, a ++ 47 :: b ≠ rstr q := fun q hq => by
  obtain ⟨h1, h2, h3⟩ := (rstr_cut ha q).1 hq
  rw [hn] at h2
  rw [hd, ← itoa_nat] at h3
  have h4 := itoa_inj h2
  have h5 := itoa_inj h3
  subst h4
  have h6 := q.den_pos
  have h7 := rat_gcd q
  rcases h with h | h | h
  · omega
  · omega
  · rw [h5] at h
    exact h h7
theorem gcd_zl {a b : Int} (hb : b ≠ 0) {k : Nat} (h : zl b ≤ k) : zl (Int.gcd a b : Int) ≤ k := by
  unfold zl at *
  rw [Int.natAbs_natCast]
  exact Nat.le_trans (dl_mono (Nat.gcd_le_right _ (by omega))) h
theorem zl_itoa {z : Int} {s : List UInt8} (h : s = Lib.itoa z) {k : Nat} (hl : s.length ≤ 9 * k) : zl z ≤ k := dl_digits (Nat.le_trans (abs_digits z) (h ▸ hl))
theorem zl_one : zl 1 ≤ 1 := dl_le (k := 1) (by decide)
set_option maxHeartbeats 2000000 in
theorem zread_c {S : Nat → Prop} {w : World} {s : List UInt8} (hS : Up S w) (hl : s.length ≤ 140737488351232) :
    Gives Tryz.prog 62 [strV s] w fun v' w' => Ext w w' ∧ ReadR S w' v' s := by
  refine gives_of Tryz.func62 rfl rfl rfl ?_
  have k : Ext w w := .refl
  repeat (first | refine wp_seq_region ?_ | refine wp_region ?_)
  refine r_alloc (cs := [.bool false, .slice none 0 0, .bool false, .slice none 0 0]) rfl ?_
  intro w_1 g k_1 hg hs_1
  have hsg : w.heap.size ≤ g := Nat.le_trans k.size hs_1
  clear hs_1
  replace hS := hS.to k_1
  replace k := k.trans k_1
  clear k_1
  repeat (first | refine wp_seq_region ?_ | refine wp_seq_seq ?_ | refine wp_region ?_ | refine r_assign (by conv => (lhs; whnf)) ?_ | refine r_nil ?_ | refine q_then ?_)
  try refine wp_seq_block ?_
  refine wp_for [(3, 8), (11, 64)] (fun j ρ w' => w' = w_1 ∧ j ≤ s.length ∧ ρ 4 = .int .i64 ((s.length : Int) - j) ∧ (47 : UInt8) ∉ s.take (s.length - j)) s.length ?_ ?_
  · exact ⟨rfl, Nat.le_refl _, congrArg (Value.int .i64) (by omega), by simp⟩
  rintro j u w2 ⟨rfl, hj, h4, hno⟩
  refine wp_learn 4 h4 ?_
  clear h4
  obtain ⟨i, hi⟩ : ∃ i, i = s.length - j := ⟨_, rfl⟩
  rw [show (s.length : Int) - j = (i : Int) by omega]
  rw [← hi] at hno
  repeat (first | refine r_lenS rfl ?_ | refine wp_seq_region ?_ | refine wp_seq_seq ?_ | refine wp_region ?_ | refine r_move (by conv => (lhs; whnf)) ?_ | refine r_nil ?_ | refine q_then ?_ | refine r_lss rfl rfl ?_)
  try refine wp_seq_cond ?_
  refine wp_cond_dec rfl ?_ ?_ <;> intro hlt
  · obtain ⟨c, hc⟩ : ∃ c, s[i]? = some c := ⟨s[i], List.getElem?_eq_getElem (by omega)⟩
    repeat (first | refine r_indexS i rfl rfl rfl hc ?_ | refine wp_seq_region ?_ | refine wp_seq_seq ?_ | refine wp_seq_bseq ?_ | refine wp_region ?_ | refine r_move (by conv => (lhs; whnf)) ?_ | refine r_nil ?_ | refine q_then ?_ | refine wp_block_seq ?_ | refine wp_skip ?_ | refine r_neq rfl rfl ?_)
    refine wp_cond_dec rfl ?_ ?_ <;> intro h47
    · have hc47 : c ≠ 47 := by rintro rfl; exact h47 rfl
      repeat (first | refine wp_region ?_ | refine r_move (by conv => (lhs; whnf)) ?_ | refine r_assign (by conv => (lhs; whnf)) ?_ | refine r_nil ?_ | refine q_then ?_ | refine wp_exit ?_ | refine r_addI rfl rfl (by omega) (by omega) ?_)
      refine ⟨by (repeat (first | refine agree_upd rfl ?_ | exact agree_over | refine agree_sub rfl ?_ | exact agree_refl | refine agree_base rfl ?_ | refine agree_base' rfl ?_)), j - 1, by omega, rfl, by omega, congrArg (Value.int .i64) (by omega), ?_⟩
      rw [show s.length - (j - 1) = i + 1 by omega, List.take_add_one, hc]
      simp only [Option.toList_some, List.mem_append, List.mem_singleton, not_or]
      exact ⟨hno, fun h => hc47 h.symm⟩
    · have hc47 : c = 47 := by
        apply UInt8.toNat_inj.1
        show c.toNat = 47
        omega
      subst hc47
      obtain ⟨a, ha⟩ : ∃ a, a = s.take i := ⟨_, rfl⟩
      obtain ⟨b, hb⟩ : ∃ b, b = s.drop (i + 1) := ⟨_, rfl⟩
      have hs : s = a ++ 47 :: b := by
        rw [ha, hb]
        have h1 : s.drop i = 47 :: s.drop (i + 1) := by
          rw [List.drop_eq_getElem_cons (by omega)]
          rw [List.getElem?_eq_getElem (by omega)] at hc
          rw [Option.some.inj hc]
        rw [← h1, List.take_append_drop]
      have hal : a.length ≤ s.length := by rw [ha, List.length_take]; omega
      have hbl : b.length ≤ s.length := by rw [hb, List.length_drop]; omega
      rw [← ha] at hno
      repeat (first | refine r_sliceS_high i rfl rfl rfl (by omega) ?_ | refine wp_seq_region ?_ | refine wp_region ?_ | refine r_move (by conv => (lhs; whnf)) ?_ | refine wp_skip ?_)
      rw [← ha]
      refine r_call (zparse_c hS (by omega)) rfl ?_
      rintro v_2 w_2 ⟨k_2, hp⟩
      replace hS := hS.to k_2
      replace hg := hg.to k_2
      replace k := k.trans k_2
      clear k_2
      obtain ⟨b1, m1, vb1, rfl, h1⟩ := hp.pc
      have o1 := h1.1
      have o2 := h1.2.1
      clear hp
      repeat (first | refine r_move (by conv => (lhs; whnf)) ?_ | refine r_extract rfl rfl ?_)
      refine r_new (zs := [.bool false, .slice none 0 0]) (us := [b1, m1]) rfl (fun _ => rfl) rfl rfl (ones2 o1 o2) ?_
      intro w_3 g5 k_3 hs_3 hg5
      have hsg5 : w.heap.size ≤ g5 := Nat.le_trans k.size hs_3
      have ne_g_g5 : g ≠ g5 := fun e => by have := hg.lt; omega
      clear hs_3
      replace hS := hS.to k_3
      replace hg := hg.to k_3
      replace h1 := h1.to k_3
      replace k := k.trans k_3
      clear k_3
      repeat (first | refine r_sliceS_low (i + 1) rfl rfl rfl (by omega) ?_ | refine wp_seq_region ?_ | refine wp_region ?_ | refine r_move (by conv => (lhs; whnf)) ?_ | refine r_assign (by conv => (lhs; whnf)) ?_ | refine r_nil ?_ | refine r_addI rfl rfl (by omega) (by omega) ?_)
      rw [← hb]
      refine r_call (zparse_c hS (by omega)) rfl ?_
      rintro v_4 w_4 ⟨k_4, hp⟩
      replace hS := hS.to k_4
      replace hg := hg.to k_4
      replace h1 := h1.to k_4
      replace hg5 := hg5.to k_4
      replace k := k.trans k_4
      clear k_4
      obtain ⟨b2, m2, vb2, rfl, h2⟩ := hp.pc
      have o3 := h2.1
      have o4 := h2.2.1
      clear hp
      repeat (first | refine r_move (by conv => (lhs; whnf)) ?_ | refine r_extract rfl rfl ?_)
      refine r_new (zs := [.bool false, .slice none 0 0]) (us := [b2, m2]) rfl (fun _ => rfl) rfl rfl (ones2 o3 o4) ?_
      intro w_5 g7 k_5 hs_5 hg7
      have hsg7 : w.heap.size ≤ g7 := Nat.le_trans k.size hs_5
      have ne_g_g7 : g ≠ g7 := fun e => by have := hg.lt; omega
      have ne_g5_g7 : g5 ≠ g7 := fun e => by have := hg5.lt; omega
      clear hs_5
      replace hS := hS.to k_5
      replace hg := hg.to k_5
      replace h1 := h1.to k_5
      replace hg5 := hg5.to k_5
      replace h2 := h2.to k_5
      replace k := k.trans k_5
      clear k_5
      subst hs
      have hng : g ≠ g7 := ne_g_g7
      obtain ⟨_, _, ⟨rfl, n, hn, hzn⟩ | ⟨rfl, hbad⟩⟩ := h1
      · obtain ⟨_, _, ⟨rfl, d, hd, hzd⟩ | ⟨rfl, hbad⟩⟩ := h2
        · skip
          have ln : zl n ≤ 15637498706148 := zl_itoa hn (by omega)
          have ld : zl d ≤ 15637498706148 := zl_itoa hd (by omega)
          have l1 := zl_one
          obtain ⟨mn, en, hmn⟩ := hzn
          obtain ⟨md, ed, hmd⟩ := hzd
          have e1 : b1 = .bool (tst (n < 0)) ∧ m1 = mn := by simpa using en
          have e2 : b2 = .bool (tst (d < 0)) ∧ m2 = md := by simpa using ed
          obtain ⟨rfl, rfl⟩ := e1
          obtain ⟨rfl, rfl⟩ := e2
          clear en ed
          by_cases h0 : d ≤ 0
          · have hb2 := cut_bad2 hno hn hd (.inl h0)
            repeat (first | refine wp_seq_region ?_ | refine wp_seq_seq ?_ | refine r_assign (by conv => (lhs; whnf)) ?_ | refine r_nil ?_)
            refine wp_drawn 24 (by kernel_rfl) (by kernel_rfl) ?_
            apply ob_step
            · intro x w1 k1 hd
              refine r_move (by conv => (lhs; whnf)) ?_
              refine r_nil ?_
              exact ob_eq
            apply ob_step
            · intro x w1 k1 hd
              refine r_not rfl ?_
              refine r_nil ?_
              exact ob_eq
            apply ob_step
            · intro x w1 k1 hd
              refine r_move (by conv => (lhs; whnf)) ?_
              refine r_nil ?_
              exact ob_eq
            apply ob_step
            · intro x w1 k1 hd
              refine r_guard_run rfl rfl ?_
              refine r_move (by conv => (lhs; whnf)) ?_
              refine r_nil ?_
              exact ob_eq
            apply ob_step
            · intro x w1 k1 hd
              refine r_guard_run rfl rfl ?_
              refine r_not rfl ?_
              refine r_nil ?_
              exact ob_eq
            apply ob_step
            · intro x w1 k1 hd
              refine r_pick_false rfl (by conv => (lhs; whnf)) ?_
              refine r_nil ?_
              exact ob_eq
            apply ob_step
            · intro x w1 k1 hd
              refine r_move (by conv => (lhs; whnf)) ?_
              refine r_nil ?_
              exact ob_eq
            apply ob_step
            · intro x w1 k1 hd
              refine r_guard_run rfl rfl ?_
              refine r_load_all rfl (hg7.to k1) rfl ?_
              refine r_nil ?_
              exact ob_eq
            refine ob_step (e := Ent.eq (.int .i64 d.sign)) ?_ ?_
            · intro x w1 k1 hd
              refine r_guard_run rfl rfl ?_
              refine r_call (zsign_c (z := d) ⟨m2, rfl, hmd.to k1⟩) rfl ?_
              rintro v2 w2 ⟨rfl, k2⟩
              exact r_nil (ob_eqv (rfl) k2)
            refine ob_step (e := Ent.eq (.bool true)) ?_ ?_
            · intro x w1 k1 hd
              refine r_guard_run rfl rfl ?_
              refine r_leq rfl rfl ?_
              refine r_nil ?_
              exact ob_eqv (congrArg Value.bool (tst_true (by have := Int.sign_eq_one_iff_pos (a := d); have := Int.sign_eq_neg_one_iff_neg (a := d); have := Int.sign_eq_zero_iff_zero (a := d); omega))) .refl
            apply ob_step
            · intro x w1 k1 hd
              refine r_pick_false rfl (by conv => (lhs; whnf)) ?_
              refine r_nil ?_
              exact ob_eq
            apply ob_step
            · intro x w1 k1 hd
              refine r_move (by conv => (lhs; whnf)) ?_
              refine r_nil ?_
              exact ob_eq
            apply ob_step
            · intro x w1 k1 hd
              refine r_guard_skip rfl rfl rfl ?_
              refine r_nil ?_
              exact ob_eq
            apply ob_step
            · intro x w1 k1 hd
              refine r_guard_skip rfl rfl rfl ?_
              refine r_nil ?_
              exact ob_eq
            apply ob_step
            · intro x w1 k1 hd
              refine r_guard_skip rfl rfl rfl ?_
              refine r_nil ?_
              exact ob_eq
            apply ob_step
            · intro x w1 k1 hd
              refine r_guard_skip rfl rfl rfl ?_
              refine r_nil ?_
              exact ob_eq
            apply ob_step
            · intro x w1 k1 hd
              refine r_pick_true rfl (by conv => (lhs; whnf)) ?_
              refine r_nil ?_
              exact ob_eq
            apply ob_step
            · intro x w1 k1 hd
              refine r_move (by conv => (lhs; whnf)) ?_
              refine r_nil ?_
              exact ob_eq
            apply ob_step
            · intro x w1 k1 hd
              refine r_guard_skip rfl rfl rfl ?_
              refine r_nil ?_
              exact ob_eq
            apply ob_step
            · intro x w1 k1 hd
              refine r_guard_skip rfl rfl rfl ?_
              refine r_nil ?_
              exact ob_eq
            apply ob_step
            · intro x w1 k1 hd
              refine r_guard_skip rfl rfl rfl ?_
              refine r_nil ?_
              exact ob_eq
            apply ob_step
            · intro x w1 k1 hd
              refine r_guard_skip rfl rfl rfl ?_
              refine r_nil ?_
              exact ob_eq
            apply ob_step
            · intro x w1 k1 hd
              refine r_guard_skip rfl rfl rfl ?_
              refine r_nil ?_
              exact ob_eq
            apply ob_step
            · intro x w1 k1 hd
              refine r_guard_skip rfl rfl rfl ?_
              refine r_nil ?_
              exact ob_eq
            refine ob_nil (ob_end ?_)
            intro x w9 k9 _
            replace hS := hS.to k9
            replace hg := hg.to k9
            replace hg5 := hg5.to k9
            replace hg7 := hg7.to k9
            replace hmn := hmn.to k9
            replace hmd := hmd.to k9
            replace k := k.trans k9
            clear k9
            repeat (first | refine wp_seq_region ?_ | refine wp_region ?_ | refine r_nil ?_ | refine q_then ?_ | refine r_pick_true rfl (by conv => (lhs; whnf)) ?_ | refine wp_cond_true rfl ?_)
            refine r_build0 (cs := [.bool false, .slice none 0 0, .bool false, .slice none 0 0]) rfl ?_
            refine r_store4 rfl (by conv => (lhs; whnf)) hg rfl rfl rfl rfl rfl ?_
            intro w_7 k_7 h_7
            replace hS := hS.to k_7
            replace hg5 := hg5.wr k_7 (by omega)
            replace hg7 := hg7.wr k_7 (by omega)
            replace hmn := hmn.wrT k_7 hg (by decide)
            replace hmd := hmd.wrT k_7 hg (by decide)
            replace k : Ext w w_7 := k.past k_7 hsg
            replace hg := h_7
            clear h_7 k_7
            repeat (first | refine r_assign (by conv => (lhs; whnf)) ?_ | refine r_nil ?_ | refine q_then ?_ | refine wp_ret ?_ | refine q_then_ret ?_ | refine q_block_ret ?_)
            exact end2 rfl (resV_agg (by conv => (lhs; whnf)) hg rfl) (resV_tmp (by conv => (lhs; whnf))) ⟨k, .inr ⟨hb2, rfl⟩⟩
          · have hs1 : d.sign = 1 := Int.sign_eq_one_of_pos (by omega)
            by_cases h1 : d = 1
            · have hb2 := cut_bad2 hno hn hd (.inr (.inl h1))
              repeat (first | refine wp_seq_region ?_ | refine wp_seq_seq ?_ | refine r_assign (by conv => (lhs; whnf)) ?_ | refine r_nil ?_)
              refine wp_drawn 24 (by kernel_rfl) (by kernel_rfl) ?_
              apply ob_step
              · intro x w1 k1 hd
                refine r_move (by conv => (lhs; whnf)) ?_
                refine r_nil ?_
                exact ob_eq
              apply ob_step
              · intro x w1 k1 hd
                refine r_not rfl ?_
                refine r_nil ?_
                exact ob_eq
              apply ob_step
              · intro x w1 k1 hd
                refine r_move (by conv => (lhs; whnf)) ?_
                refine r_nil ?_
                exact ob_eq
              apply ob_step
              · intro x w1 k1 hd
                refine r_guard_run rfl rfl ?_
                refine r_move (by conv => (lhs; whnf)) ?_
                refine r_nil ?_
                exact ob_eq
              apply ob_step
              · intro x w1 k1 hd
                refine r_guard_run rfl rfl ?_
                refine r_not rfl ?_
                refine r_nil ?_
                exact ob_eq
              apply ob_step
              · intro x w1 k1 hd
                refine r_pick_false rfl (by conv => (lhs; whnf)) ?_
                refine r_nil ?_
                exact ob_eq
              apply ob_step
              · intro x w1 k1 hd
                refine r_move (by conv => (lhs; whnf)) ?_
                refine r_nil ?_
                exact ob_eq
              apply ob_step
              · intro x w1 k1 hd
                refine r_guard_run rfl rfl ?_
                refine r_load_all rfl (hg7.to k1) rfl ?_
                refine r_nil ?_
                exact ob_eq
              refine ob_step (e := Ent.eq (.int .i64 d.sign)) ?_ ?_
              · intro x w1 k1 hd
                refine r_guard_run rfl rfl ?_
                refine r_call (zsign_c (z := d) ⟨m2, rfl, hmd.to k1⟩) rfl ?_
                rintro v2 w2 ⟨rfl, k2⟩
                exact r_nil (ob_eqv (rfl) k2)
              refine ob_step (e := Ent.eq (.bool false)) ?_ ?_
              · intro x w1 k1 hd
                refine r_guard_run rfl rfl ?_
                refine r_leq rfl rfl ?_
                refine r_nil ?_
                exact ob_eqv (congrArg Value.bool (tst_false (by omega))) .refl
              apply ob_step
              · intro x w1 k1 hd
                refine r_pick_false rfl (by conv => (lhs; whnf)) ?_
                refine r_nil ?_
                exact ob_eq
              apply ob_step
              · intro x w1 k1 hd
                refine r_move (by conv => (lhs; whnf)) ?_
                refine r_nil ?_
                exact ob_eq
              apply ob_step
              · intro x w1 k1 hd
                refine r_guard_run rfl rfl ?_
                refine r_load_all rfl (hg7.to k1) rfl ?_
                refine r_nil ?_
                exact ob_eq
              refine ob_step (e := zE S 1) ?_ ?_
              · intro x w1 k1 hd
                refine r_guard_run rfl rfl ?_
                refine r_call (zof_c (z := 1) (hS.to k1) (by decide) (by decide)) rfl ?_
                rintro v2 w2 ⟨k2, h2⟩
                exact r_nil (ob_of k2 h2)
              refine ob_step (e := Ent.eq (.int .i64 (d - 1).sign)) ?_ ?_
              · intro x w1 k1 hd
                refine r_guard_run rfl rfl ?_
                refine r_call (zcmp_c (S := S) (a := d) (b := 1) (hS.to k1) ⟨m2, rfl, hmd.to k1⟩ hd.1 (by omega) (by omega)) rfl ?_
                rintro v2 w2 ⟨rfl, k2⟩
                exact r_nil (ob_eqv (rfl) k2)
              refine ob_step (e := Ent.eq (.bool true)) ?_ ?_
              · intro x w1 k1 hd
                refine r_guard_run rfl rfl ?_
                refine r_eql rfl rfl ?_
                refine r_nil ?_
                exact ob_eqv (congrArg Value.bool (tst_true (by rw [h1]; rfl))) .refl
              apply ob_step
              · intro x w1 k1 hd
                refine r_pick_false rfl (by conv => (lhs; whnf)) ?_
                refine r_nil ?_
                exact ob_eq
              apply ob_step
              · intro x w1 k1 hd
                refine r_move (by conv => (lhs; whnf)) ?_
                refine r_nil ?_
                exact ob_eq
              apply ob_step
              · intro x w1 k1 hd
                refine r_guard_skip rfl rfl rfl ?_
                refine r_nil ?_
                exact ob_eq
              apply ob_step
              · intro x w1 k1 hd
                refine r_guard_skip rfl rfl rfl ?_
                refine r_nil ?_
                exact ob_eq
              apply ob_step
              · intro x w1 k1 hd
                refine r_guard_skip rfl rfl rfl ?_
                refine r_nil ?_
                exact ob_eq
              apply ob_step
              · intro x w1 k1 hd
                refine r_guard_skip rfl rfl rfl ?_
                refine r_nil ?_
                exact ob_eq
              apply ob_step
              · intro x w1 k1 hd
                refine r_guard_skip rfl rfl rfl ?_
                refine r_nil ?_
                exact ob_eq
              apply ob_step
              · intro x w1 k1 hd
                refine r_guard_skip rfl rfl rfl ?_
                refine r_nil ?_
                exact ob_eq
              refine ob_nil (ob_end ?_)
              intro x w9 k9 _
              replace hS := hS.to k9
              replace hg := hg.to k9
              replace hg5 := hg5.to k9
              replace hg7 := hg7.to k9
              replace hmn := hmn.to k9
              replace hmd := hmd.to k9
              replace k := k.trans k9
              clear k9
              repeat (first | refine wp_seq_region ?_ | refine wp_region ?_ | refine r_nil ?_ | refine q_then ?_ | refine r_pick_true rfl (by conv => (lhs; whnf)) ?_ | refine wp_cond_true rfl ?_)
              refine r_build0 (cs := [.bool false, .slice none 0 0, .bool false, .slice none 0 0]) rfl ?_
              refine r_store4 rfl (by conv => (lhs; whnf)) hg rfl rfl rfl rfl rfl ?_
              intro w_7 k_7 h_7
              replace hS := hS.to k_7
              replace hg5 := hg5.wr k_7 (by omega)
              replace hg7 := hg7.wr k_7 (by omega)
              replace hmn := hmn.wrT k_7 hg (by decide)
              replace hmd := hmd.wrT k_7 hg (by decide)
              replace k : Ext w w_7 := k.past k_7 hsg
              replace hg := h_7
              clear h_7 k_7
              repeat (first | refine r_assign (by conv => (lhs; whnf)) ?_ | refine r_nil ?_ | refine q_then ?_ | refine wp_ret ?_ | refine q_then_ret ?_ | refine q_block_ret ?_)
              exact end2 rfl (resV_agg (by conv => (lhs; whnf)) hg rfl) (resV_tmp (by conv => (lhs; whnf))) ⟨k, .inr ⟨hb2, rfl⟩⟩
            · have hs2 : (d - 1).sign = 1 := Int.sign_eq_one_of_pos (by omega)
              have lg := gcd_zl (a := n) (b := d) (by omega) ld
              repeat (first | refine wp_seq_region ?_ | refine wp_seq_seq ?_ | refine r_assign (by conv => (lhs; whnf)) ?_ | refine r_nil ?_)
              refine wp_drawn 24 (by kernel_rfl) (by kernel_rfl) ?_
              apply ob_step
              · intro x w1 k1 hd
                refine r_move (by conv => (lhs; whnf)) ?_
                refine r_nil ?_
                exact ob_eq
              apply ob_step
              · intro x w1 k1 hd
                refine r_not rfl ?_
                refine r_nil ?_
                exact ob_eq
              apply ob_step
              · intro x w1 k1 hd
                refine r_move (by conv => (lhs; whnf)) ?_
                refine r_nil ?_
                exact ob_eq
              apply ob_step
              · intro x w1 k1 hd
                refine r_guard_run rfl rfl ?_
                refine r_move (by conv => (lhs; whnf)) ?_
                refine r_nil ?_
                exact ob_eq
              apply ob_step
              · intro x w1 k1 hd
                refine r_guard_run rfl rfl ?_
                refine r_not rfl ?_
                refine r_nil ?_
                exact ob_eq
              apply ob_step
              · intro x w1 k1 hd
                refine r_pick_false rfl (by conv => (lhs; whnf)) ?_
                refine r_nil ?_
                exact ob_eq
              apply ob_step
              · intro x w1 k1 hd
                refine r_move (by conv => (lhs; whnf)) ?_
                refine r_nil ?_
                exact ob_eq
              apply ob_step
              · intro x w1 k1 hd
                refine r_guard_run rfl rfl ?_
                refine r_load_all rfl (hg7.to k1) rfl ?_
                refine r_nil ?_
                exact ob_eq
              refine ob_step (e := Ent.eq (.int .i64 d.sign)) ?_ ?_
              · intro x w1 k1 hd
                refine r_guard_run rfl rfl ?_
                refine r_call (zsign_c (z := d) ⟨m2, rfl, hmd.to k1⟩) rfl ?_
                rintro v2 w2 ⟨rfl, k2⟩
                exact r_nil (ob_eqv (rfl) k2)
              refine ob_step (e := Ent.eq (.bool false)) ?_ ?_
              · intro x w1 k1 hd
                refine r_guard_run rfl rfl ?_
                refine r_leq rfl rfl ?_
                refine r_nil ?_
                exact ob_eqv (congrArg Value.bool (tst_false (by omega))) .refl
              apply ob_step
              · intro x w1 k1 hd
                refine r_pick_false rfl (by conv => (lhs; whnf)) ?_
                refine r_nil ?_
                exact ob_eq
              apply ob_step
              · intro x w1 k1 hd
                refine r_move (by conv => (lhs; whnf)) ?_
                refine r_nil ?_
                exact ob_eq
              apply ob_step
              · intro x w1 k1 hd
                refine r_guard_run rfl rfl ?_
                refine r_load_all rfl (hg7.to k1) rfl ?_
                refine r_nil ?_
                exact ob_eq
              refine ob_step (e := zE S 1) ?_ ?_
              · intro x w1 k1 hd
                refine r_guard_run rfl rfl ?_
                refine r_call (zof_c (z := 1) (hS.to k1) (by decide) (by decide)) rfl ?_
                rintro v2 w2 ⟨k2, h2⟩
                exact r_nil (ob_of k2 h2)
              refine ob_step (e := Ent.eq (.int .i64 (d - 1).sign)) ?_ ?_
              · intro x w1 k1 hd
                refine r_guard_run rfl rfl ?_
                refine r_call (zcmp_c (S := S) (a := d) (b := 1) (hS.to k1) ⟨m2, rfl, hmd.to k1⟩ hd.1 (by omega) (by omega)) rfl ?_
                rintro v2 w2 ⟨rfl, k2⟩
                exact r_nil (ob_eqv (rfl) k2)
              refine ob_step (e := Ent.eq (.bool false)) ?_ ?_
              · intro x w1 k1 hd
                refine r_guard_run rfl rfl ?_
                refine r_eql rfl rfl ?_
                refine r_nil ?_
                exact ob_eqv (congrArg Value.bool (tst_false (by omega))) .refl
              apply ob_step
              · intro x w1 k1 hd
                refine r_pick_false rfl (by conv => (lhs; whnf)) ?_
                refine r_nil ?_
                exact ob_eq
              apply ob_step
              · intro x w1 k1 hd
                refine r_move (by conv => (lhs; whnf)) ?_
                refine r_nil ?_
                exact ob_eq
              apply ob_step
              · intro x w1 k1 hd
                refine r_guard_run rfl rfl ?_
                refine r_load_all rfl (hg5.to k1) rfl ?_
                refine r_nil ?_
                exact ob_eq
              apply ob_step
              · intro x w1 k1 hd
                refine r_guard_run rfl rfl ?_
                refine r_load_all rfl (hg7.to k1) rfl ?_
                refine r_nil ?_
                exact ob_eq
              refine ob_step (e := zE S (Int.gcd n d : Int)) ?_ ?_
              · intro x w1 k1 hd
                refine r_guard_run rfl rfl ?_
                refine r_call (zgcd_c (a := n) (b := d) (hS.to k1) ⟨m1, rfl, hmn.to k1⟩ ⟨m2, rfl, hmd.to k1⟩ (by omega) (by omega)) rfl ?_
                rintro v2 w2 ⟨k2, h2⟩
                exact r_nil (ob_of k2 h2)
              refine ob_step (e := zE S 1) ?_ ?_
              · intro x w1 k1 hd
                refine r_guard_run rfl rfl ?_
                refine r_call (zof_c (z := 1) (hS.to k1) (by decide) (by decide)) rfl ?_
                rintro v2 w2 ⟨k2, h2⟩
                exact r_nil (ob_of k2 h2)
              refine ob_step (e := Ent.eq (.int .i64 ((Int.gcd n d : Int) - 1).sign)) ?_ ?_
              · intro x w1 k1 hd
                refine r_guard_run rfl rfl ?_
                refine r_call (zcmp_c (S := S) (a := (Int.gcd n d : Int)) (b := 1) (hS.to k1) hd.2.1 hd.1 (by omega) (by omega)) rfl ?_
                rintro v2 w2 ⟨rfl, k2⟩
                exact r_nil (ob_eqv (rfl) k2)
              refine ob_step (e := Ent.eq (.bool (tst (Int.gcd n d ≠ 1)))) ?_ ?_
              · intro x w1 k1 hd
                refine r_guard_run rfl rfl ?_
                refine r_neq rfl rfl ?_
                refine r_nil ?_
                exact ob_eqv (congrArg Value.bool (tst_congr (not_congr (by rw [Int.sign_eq_zero_iff_zero]; omega)))) .refl
              refine ob_nil (ob_end ?_)
              intro x w9 k9 _
              replace hS := hS.to k9
              replace hg := hg.to k9
              replace hg5 := hg5.to k9
              replace hg7 := hg7.to k9
              replace hmn := hmn.to k9
              replace hmd := hmd.to k9
              replace k := k.trans k9
              clear k9
              repeat (first | refine r_nil ?_ | refine q_then ?_ | refine r_pick_false rfl (by conv => (lhs; whnf)) ?_)
              refine wp_cond_dec rfl ?_ ?_ <;> intro hgc
              · have hb2 := cut_bad2 hno hn hd (.inr (.inr hgc))
                repeat (first | refine wp_seq_region ?_ | refine wp_region ?_)
                refine r_build0 (cs := [.bool false, .slice none 0 0, .bool false, .slice none 0 0]) rfl ?_
                refine r_store4 rfl (by conv => (lhs; whnf)) hg rfl rfl rfl rfl rfl ?_
                intro w_7 k_7 h_7
                replace hS := hS.to k_7
                replace hg5 := hg5.wr k_7 (by omega)
                replace hg7 := hg7.wr k_7 (by omega)
                replace hmn := hmn.wrT k_7 hg (by decide)
                replace hmd := hmd.wrT k_7 hg (by decide)
                replace k : Ext w w_7 := k.past k_7 hsg
                replace hg := h_7
                clear h_7 k_7
                repeat (first | refine r_assign (by conv => (lhs; whnf)) ?_ | refine r_nil ?_ | refine q_then ?_ | refine wp_ret ?_ | refine q_then_ret ?_ | refine q_block_ret ?_)
                exact end2 rfl (resV_agg (by conv => (lhs; whnf)) hg rfl) (resV_tmp (by conv => (lhs; whnf))) ⟨k, .inr ⟨hb2, rfl⟩⟩
              · obtain ⟨q, hq1, hq2, hq3⟩ := cut_good hno hn hd (by omega) h1 (Classical.not_not.1 hgc)
                subst hq1 hq2
                rw [Int.natAbs_natCast] at hmd
                repeat (first | refine r_load_all rfl hg5 rfl ?_ | refine r_load_all rfl hg7 rfl ?_ | refine wp_seq_region ?_ | refine wp_region ?_ | refine wp_skip ?_)
                refine r_build22 (by conv => (lhs; whnf)) (by conv => (lhs; whnf)) ?_
                refine r_store4 rfl (by conv => (lhs; whnf)) hg rfl rfl hmn.one rfl hmd.one ?_
                intro w_7 k_7 h_7
                replace hS := hS.to k_7
                replace hg5 := hg5.wr k_7 (by omega)
                replace hg7 := hg7.wr k_7 (by omega)
                replace hmn := hmn.wrT k_7 hg (by decide)
                replace hmd := hmd.wrT k_7 hg (by decide)
                replace k : Ext w w_7 := k.past k_7 hsg
                replace hg := h_7
                clear h_7 k_7
                repeat (first | refine r_assign (by conv => (lhs; whnf)) ?_ | refine r_nil ?_ | refine q_then ?_ | refine wp_ret ?_ | refine q_then_ret ?_ | refine q_block_ret ?_)
                exact end2 rfl (resV_agg (by conv => (lhs; whnf)) hg rfl) (resV_tmp (by conv => (lhs; whnf))) ⟨k, .inl ⟨q, _, hq3, rfl, m1, m2, rfl, hmn, hmd⟩⟩
        · have hb2 := cut_bad (b := b) hno (.inr hbad)
          repeat (first | refine wp_seq_region ?_ | refine wp_seq_seq ?_ | refine r_assign (by conv => (lhs; whnf)) ?_ | refine r_nil ?_)
          refine wp_drawn 24 (by kernel_rfl) (by kernel_rfl) ?_
          apply ob_step
          · intro x w1 k1 hd
            refine r_move (by conv => (lhs; whnf)) ?_
            refine r_nil ?_
            exact ob_eq
          apply ob_step
          · intro x w1 k1 hd
            refine r_not rfl ?_
            refine r_nil ?_
            exact ob_eq
          apply ob_step
          · intro x w1 k1 hd
            refine r_move (by conv => (lhs; whnf)) ?_
            refine r_nil ?_
            exact ob_eq
          apply ob_step
          · intro x w1 k1 hd
            refine r_guard_run rfl rfl ?_
            refine r_move (by conv => (lhs; whnf)) ?_
            refine r_nil ?_
            exact ob_eq
          apply ob_step
          · intro x w1 k1 hd
            refine r_guard_run rfl rfl ?_
            refine r_not rfl ?_
            refine r_nil ?_
            exact ob_eq
          apply ob_step
          · intro x w1 k1 hd
            refine r_pick_false rfl (by conv => (lhs; whnf)) ?_
            refine r_nil ?_
            exact ob_eq
          apply ob_step
          · intro x w1 k1 hd
            refine r_move (by conv => (lhs; whnf)) ?_
            refine r_nil ?_
            exact ob_eq
          apply ob_step
          · intro x w1 k1 hd
            refine r_guard_skip rfl rfl rfl ?_
            refine r_nil ?_
            exact ob_eq
          apply ob_step
          · intro x w1 k1 hd
            refine r_guard_skip rfl rfl rfl ?_
            refine r_nil ?_
            exact ob_eq
          apply ob_step
          · intro x w1 k1 hd
            refine r_guard_skip rfl rfl rfl ?_
            refine r_nil ?_
            exact ob_eq
          apply ob_step
          · intro x w1 k1 hd
            refine r_pick_true rfl (by conv => (lhs; whnf)) ?_
            refine r_nil ?_
            exact ob_eq
          apply ob_step
          · intro x w1 k1 hd
            refine r_move (by conv => (lhs; whnf)) ?_
            refine r_nil ?_
            exact ob_eq
          apply ob_step
          · intro x w1 k1 hd
            refine r_guard_skip rfl rfl rfl ?_
            refine r_nil ?_
            exact ob_eq
          apply ob_step
          · intro x w1 k1 hd
            refine r_guard_skip rfl rfl rfl ?_
            refine r_nil ?_
            exact ob_eq
          apply ob_step
          · intro x w1 k1 hd
            refine r_guard_skip rfl rfl rfl ?_
            refine r_nil ?_
            exact ob_eq
          apply ob_step
          · intro x w1 k1 hd
            refine r_guard_skip rfl rfl rfl ?_
            refine r_nil ?_
            exact ob_eq
          apply ob_step
          · intro x w1 k1 hd
            refine r_pick_true rfl (by conv => (lhs; whnf)) ?_
            refine r_nil ?_
            exact ob_eq
          apply ob_step
          · intro x w1 k1 hd
            refine r_move (by conv => (lhs; whnf)) ?_
            refine r_nil ?_
            exact ob_eq
          apply ob_step
          · intro x w1 k1 hd
            refine r_guard_skip rfl rfl rfl ?_
            refine r_nil ?_
            exact ob_eq
          apply ob_step
          · intro x w1 k1 hd
            refine r_guard_skip rfl rfl rfl ?_
            refine r_nil ?_
            exact ob_eq
          apply ob_step
          · intro x w1 k1 hd
            refine r_guard_skip rfl rfl rfl ?_
            refine r_nil ?_
            exact ob_eq
          apply ob_step
          · intro x w1 k1 hd
            refine r_guard_skip rfl rfl rfl ?_
            refine r_nil ?_
            exact ob_eq
          apply ob_step
          · intro x w1 k1 hd
            refine r_guard_skip rfl rfl rfl ?_
            refine r_nil ?_
            exact ob_eq
          apply ob_step
          · intro x w1 k1 hd
            refine r_guard_skip rfl rfl rfl ?_
            refine r_nil ?_
            exact ob_eq
          refine ob_nil (ob_end ?_)
          intro x w9 k9 _
          replace hS := hS.to k9
          replace hg := hg.to k9
          replace k := k.trans k9
          clear k9
          repeat (first | refine wp_seq_region ?_ | refine wp_region ?_ | refine r_nil ?_ | refine q_then ?_ | refine r_pick_true rfl (by conv => (lhs; whnf)) ?_ | refine wp_cond_true rfl ?_)
          refine r_build0 (cs := [.bool false, .slice none 0 0, .bool false, .slice none 0 0]) rfl ?_
          refine r_store4 rfl (by conv => (lhs; whnf)) hg rfl rfl rfl rfl rfl ?_
          intro w_7 k_7 h_7
          replace hS := hS.to k_7
          replace k : Ext w w_7 := k.past k_7 hsg
          replace hg := h_7
          clear h_7 k_7
          repeat (first | refine r_assign (by conv => (lhs; whnf)) ?_ | refine r_nil ?_ | refine q_then ?_ | refine wp_ret ?_ | refine q_then_ret ?_ | refine q_block_ret ?_)
          exact end2 rfl (resV_agg (by conv => (lhs; whnf)) hg rfl) (resV_tmp (by conv => (lhs; whnf))) ⟨k, .inr ⟨hb2, rfl⟩⟩
      · have hb2 := cut_bad (b := b) hno (.inl hbad)
        repeat (first | refine wp_seq_region ?_ | refine wp_seq_seq ?_ | refine r_assign (by conv => (lhs; whnf)) ?_ | refine r_nil ?_)
        refine wp_drawn 24 (by kernel_rfl) (by kernel_rfl) ?_
        apply ob_step
        · intro x w1 k1 hd
          refine r_move (by conv => (lhs; whnf)) ?_
          refine r_nil ?_
          exact ob_eq
        apply ob_step
        · intro x w1 k1 hd
          refine r_not rfl ?_
          refine r_nil ?_
          exact ob_eq
        apply ob_step
        · intro x w1 k1 hd
          refine r_move (by conv => (lhs; whnf)) ?_
          refine r_nil ?_
          exact ob_eq
        apply ob_step
        · intro x w1 k1 hd
          refine r_guard_skip rfl rfl rfl ?_
          refine r_nil ?_
          exact ob_eq
        apply ob_step
        · intro x w1 k1 hd
          refine r_guard_skip rfl rfl rfl ?_
          refine r_nil ?_
          exact ob_eq
        apply ob_step
        · intro x w1 k1 hd
          refine r_pick_true rfl (by conv => (lhs; whnf)) ?_
          refine r_nil ?_
          exact ob_eq
        apply ob_step
        · intro x w1 k1 hd
          refine r_move (by conv => (lhs; whnf)) ?_
          refine r_nil ?_
          exact ob_eq
        apply ob_step
        · intro x w1 k1 hd
          refine r_guard_skip rfl rfl rfl ?_
          refine r_nil ?_
          exact ob_eq
        apply ob_step
        · intro x w1 k1 hd
          refine r_guard_skip rfl rfl rfl ?_
          refine r_nil ?_
          exact ob_eq
        apply ob_step
        · intro x w1 k1 hd
          refine r_guard_skip rfl rfl rfl ?_
          refine r_nil ?_
          exact ob_eq
        apply ob_step
        · intro x w1 k1 hd
          refine r_pick_true rfl (by conv => (lhs; whnf)) ?_
          refine r_nil ?_
          exact ob_eq
        apply ob_step
        · intro x w1 k1 hd
          refine r_move (by conv => (lhs; whnf)) ?_
          refine r_nil ?_
          exact ob_eq
        apply ob_step
        · intro x w1 k1 hd
          refine r_guard_skip rfl rfl rfl ?_
          refine r_nil ?_
          exact ob_eq
        apply ob_step
        · intro x w1 k1 hd
          refine r_guard_skip rfl rfl rfl ?_
          refine r_nil ?_
          exact ob_eq
        apply ob_step
        · intro x w1 k1 hd
          refine r_guard_skip rfl rfl rfl ?_
          refine r_nil ?_
          exact ob_eq
        apply ob_step
        · intro x w1 k1 hd
          refine r_guard_skip rfl rfl rfl ?_
          refine r_nil ?_
          exact ob_eq
        apply ob_step
        · intro x w1 k1 hd
          refine r_pick_true rfl (by conv => (lhs; whnf)) ?_
          refine r_nil ?_
          exact ob_eq
        apply ob_step
        · intro x w1 k1 hd
          refine r_move (by conv => (lhs; whnf)) ?_
          refine r_nil ?_
          exact ob_eq
        apply ob_step
        · intro x w1 k1 hd
          refine r_guard_skip rfl rfl rfl ?_
          refine r_nil ?_
          exact ob_eq
        apply ob_step
        · intro x w1 k1 hd
          refine r_guard_skip rfl rfl rfl ?_
          refine r_nil ?_
          exact ob_eq
        apply ob_step
        · intro x w1 k1 hd
          refine r_guard_skip rfl rfl rfl ?_
          refine r_nil ?_
          exact ob_eq
        apply ob_step
        · intro x w1 k1 hd
          refine r_guard_skip rfl rfl rfl ?_
          refine r_nil ?_
          exact ob_eq
        apply ob_step
        · intro x w1 k1 hd
          refine r_guard_skip rfl rfl rfl ?_
          refine r_nil ?_
          exact ob_eq
        apply ob_step
        · intro x w1 k1 hd
          refine r_guard_skip rfl rfl rfl ?_
          refine r_nil ?_
          exact ob_eq
        refine ob_nil (ob_end ?_)
        intro x w9 k9 _
        replace hS := hS.to k9
        replace hg := hg.to k9
        replace k := k.trans k9
        clear k9
        repeat (first | refine wp_seq_region ?_ | refine wp_region ?_ | refine r_nil ?_ | refine q_then ?_ | refine r_pick_true rfl (by conv => (lhs; whnf)) ?_ | refine wp_cond_true rfl ?_)
        refine r_build0 (cs := [.bool false, .slice none 0 0, .bool false, .slice none 0 0]) rfl ?_
        refine r_store4 rfl (by conv => (lhs; whnf)) hg rfl rfl rfl rfl rfl ?_
        intro w_7 k_7 h_7
        replace hS := hS.to k_7
        replace k : Ext w w_7 := k.past k_7 hsg
        replace hg := h_7
        clear h_7 k_7
        repeat (first | refine r_assign (by conv => (lhs; whnf)) ?_ | refine r_nil ?_ | refine q_then ?_ | refine wp_ret ?_ | refine q_then_ret ?_ | refine q_block_ret ?_)
        exact end2 rfl (resV_agg (by conv => (lhs; whnf)) hg rfl) (resV_tmp (by conv => (lhs; whnf))) ⟨k, .inr ⟨hb2, rfl⟩⟩
  · have hns : (47 : UInt8) ∉ s := by rwa [List.take_of_length_le (by omega)] at hno
    repeat (first | refine wp_seq_region ?_ | refine wp_region ?_ | refine r_move (by conv => (lhs; whnf)) ?_ | refine wp_exit ?_)
    refine r_call (zparse_c hS (by omega)) rfl ?_
    rintro v_2 w_2 ⟨k_2, hp⟩
    replace hS := hS.to k_2
    replace hg := hg.to k_2
    replace k := k.trans k_2
    clear k_2
    obtain ⟨b1, m1, vb1, rfl, h1⟩ := hp.pc
    have o1 := h1.1
    have o2 := h1.2.1
    clear hp
    repeat (first | refine r_move (by conv => (lhs; whnf)) ?_ | refine r_extract rfl rfl ?_)
    refine r_new (zs := [.bool false, .slice none 0 0]) (us := [b1, m1]) rfl (fun _ => rfl) rfl rfl (ones2 o1 o2) ?_
    intro w_3 g9 k_3 hs_3 hg9
    have hsg9 : w.heap.size ≤ g9 := Nat.le_trans k.size hs_3
    have ne_g_g9 : g ≠ g9 := fun e => by have := hg.lt; omega
    clear hs_3
    replace hS := hS.to k_3
    replace hg := hg.to k_3
    replace h1 := h1.to k_3
    replace k := k.trans k_3
    clear k_3
    obtain ⟨_, _, ⟨rfl, n, hn, hzn⟩ | ⟨rfl, hbad⟩⟩ := h1
    · skip
      repeat (first | refine r_load_all rfl hg9 rfl ?_ | refine wp_seq_region ?_ | refine wp_seq_seq ?_ | refine wp_region ?_ | refine r_move (by conv => (lhs; whnf)) ?_ | refine r_assign (by conv => (lhs; whnf)) ?_ | refine r_nil ?_ | refine q_then ?_ | refine wp_skip ?_ | refine r_not rfl ?_ | refine wp_cond_false rfl ?_)
      refine r_call (zwhole_c hS hzn) rfl ?_
      rintro v_4 w_4 ⟨k_4, m2, m3, rfl, h2, h3⟩
      replace hS := hS.to k_4
      replace hg := hg.to k_4
      replace hg9 := hg9.to k_4
      replace k := k.trans k_4
      clear k_4
      skip
      refine r_store4 rfl rfl hg rfl rfl h2.one rfl h3.one ?_
      intro w_5 k_5 h_5
      replace hS := hS.to k_5
      replace hg9 := hg9.wr k_5 (by omega)
      replace h2 := h2.wrT k_5 hg (by decide)
      replace h3 := h3.wrT k_5 hg (by decide)
      replace k : Ext w w_5 := k.past k_5 hsg
      replace hg := h_5
      clear h_5 k_5
      repeat (first | refine r_assign (by conv => (lhs; whnf)) ?_ | refine r_nil ?_ | refine q_then ?_ | refine wp_ret ?_)
      exact end2 rfl (resV_agg (by conv => (lhs; whnf)) hg rfl) (resV_tmp (by conv => (lhs; whnf))) ⟨k, .inl ⟨(n : Rat), _, (rstr_none hns _).2 ⟨rfl, hn⟩, rfl, m2, m3, rfl, h2, h3⟩⟩
    · skip
      repeat (first | refine wp_seq_region ?_ | refine wp_seq_seq ?_ | refine wp_region ?_ | refine r_move (by conv => (lhs; whnf)) ?_ | refine r_assign (by conv => (lhs; whnf)) ?_ | refine r_nil ?_ | refine q_then ?_ | refine r_not rfl ?_ | refine wp_cond_true rfl ?_)
      refine r_build0 (cs := [.bool false, .slice none 0 0, .bool false, .slice none 0 0]) rfl ?_
      refine r_store4 rfl (by conv => (lhs; whnf)) hg rfl rfl rfl rfl rfl ?_
      intro w_4 k_4 h_4
      replace hS := hS.to k_4
      replace k : Ext w w_4 := k.past k_4 hsg
      replace hg := h_4
      clear h_4 k_4
      repeat (first | refine r_assign (by conv => (lhs; whnf)) ?_ | refine r_nil ?_ | refine q_then ?_ | refine wp_ret ?_ | refine q_then_ret ?_)
      exact end2 rfl (resV_agg (by conv => (lhs; whnf)) hg rfl) (resV_tmp (by conv => (lhs; whnf))) ⟨k, .inr ⟨fun q hq => hbad _ ((rstr_none hns q).1 hq).2, rfl⟩⟩
end Go.Proofs.YtpmnjjmngogkkaaGreatDoor
end

section
namespace Go.Proofs
open Go.Shelf
def Tryz.lays160_ren : Go.Shelf.Ren := ⟨fun | 160 => 155 | 232 => 189 | 231 => 188 | 227 => 190 | 234 => 192 | 233 => 191 | 236 => 194 | 235 => 193 | 228 => 212 | 271 => 215 | 151 => 214 | 197 => 213 | 120 => 229 | 152 => 228 | 260 => 227 | 137 => 235 | 119 => 236 | 224 => 210 | 225 => 209 | 217 => 208 | 266 => 225 | n => n, fun | 9 => 9 | 4 => 4 | 3 => 3 | 5 => 5 | 117 => 211 | 116 => 210 | 0 => 0 | 124 => 214 | 21 => 21 | 105 => 232 | 46 => 70 | 119 => 255 | 139 => 258 | 138 => 257 | n => n, fun | 3 => 4 | 4 => 5 | n => n⟩
theorem Tryz.lays160 : Go.Proofs.Lays.n160 Tryz.prog Tryz.lays160_ren := {
  mixed := by kernel_rfl
  f119 := Tryz.func236.trans (congrArg some (by kernel_rfl))
  f120 := Tryz.func229.trans (congrArg some (by kernel_rfl))
  f137 := Tryz.func235.trans (congrArg some (by kernel_rfl))
  f151 := Tryz.func214.trans (congrArg some (by kernel_rfl))
  f152 := Tryz.func228.trans (congrArg some (by kernel_rfl))
  f160 := Tryz.func155.trans (congrArg some (by kernel_rfl))
  f197 := Tryz.func213.trans (congrArg some (by kernel_rfl))
  f217 := Tryz.func208.trans (congrArg some (by kernel_rfl))
  f224 := Tryz.func210.trans (congrArg some (by kernel_rfl))
  f225 := Tryz.func209.trans (congrArg some (by kernel_rfl))
  f227 := Tryz.func190.trans (congrArg some (by kernel_rfl))
  f228 := Tryz.func212.trans (congrArg some (by kernel_rfl))
  f231 := Tryz.func188.trans (congrArg some (by kernel_rfl))
  f232 := Tryz.func189.trans (congrArg some (by kernel_rfl))
  f233 := Tryz.func191.trans (congrArg some (by kernel_rfl))
  f234 := Tryz.func192.trans (congrArg some (by kernel_rfl))
  f235 := Tryz.func193.trans (congrArg some (by kernel_rfl))
  f236 := Tryz.func194.trans (congrArg some (by kernel_rfl))
  f260 := Tryz.func227.trans (congrArg some (by kernel_rfl))
  f266 := Tryz.func225.trans (congrArg some (by kernel_rfl))
  f271 := Tryz.func215.trans (congrArg some (by kernel_rfl))
  t0 := Tryz.underlying0
  a0 := Tryz.isAgg0
  z0 := Tryz.sizeOf0
  v0 := Tryz.zeroValue0
  t3 := Tryz.underlying3
  a3 := Tryz.isAgg3
  z3 := Tryz.sizeOf3
  v3 := Tryz.zeroValue3
  t4 := Tryz.underlying4
  a4 := Tryz.isAgg4
  z4 := Tryz.sizeOf4
  v4 := Tryz.zeroValue4
  t5 := Tryz.underlying5
  a5 := Tryz.isAgg5
  z5 := Tryz.sizeOf5
  v5 := Tryz.zeroValue5
  t9 := Tryz.underlying9
  a9 := Tryz.isAgg9
  z9 := Tryz.sizeOf9
  v9 := Tryz.zeroValue9
  t21 := Tryz.underlying21
  a21 := Tryz.isAgg21
  z21 := Tryz.sizeOf21
  v21 := Tryz.zeroValue21
  t46 := Tryz.underlying70
  a46 := Tryz.isAgg70
  z46 := Tryz.sizeOf70
  v46 := Tryz.zeroValue70
  t105 := Tryz.underlying232
  a105 := Tryz.isAgg232
  z105 := Tryz.sizeOf232
  v105 := Tryz.zeroValue232
  t116 := Tryz.underlying210
  a116 := Tryz.isAgg210
  z116 := Tryz.sizeOf210
  t117 := Tryz.underlying211
  a117 := Tryz.isAgg211
  z117 := Tryz.sizeOf211
  v117 := Tryz.zeroValue211
  t119 := Tryz.underlying255
  a119 := Tryz.isAgg255
  z119 := Tryz.sizeOf255
  t124 := Tryz.underlying214
  a124 := Tryz.isAgg214
  z124 := Tryz.sizeOf214
  v124 := Tryz.zeroValue214
  t138 := Tryz.underlying257
  a138 := Tryz.isAgg257
  z138 := Tryz.sizeOf257
  v138 := Tryz.zeroValue257
  t139 := Tryz.underlying258
  a139 := Tryz.isAgg258
  z139 := Tryz.sizeOf258
  v139 := Tryz.zeroValue258
  g3 := by kernel_rfl
  g4 := by kernel_rfl }
def Tryz.lays103_ren : Go.Shelf.Ren := ⟨fun | 103 => 112 | 210 => 154 | 206 => 187 | n => n, fun | 9 => 9 | 4 => 4 | 24 => 139 | 3 => 3 | n => n, fun | n => n⟩
theorem Tryz.lays103 : Go.Proofs.Lays.n103 Tryz.prog Tryz.lays103_ren := {
  mixed := by kernel_rfl
  f103 := Tryz.func112.trans (congrArg some (by kernel_rfl))
  f206 := Tryz.func187.trans (congrArg some (by kernel_rfl))
  f210 := Tryz.func154.trans (congrArg some (by kernel_rfl))
  t3 := Tryz.underlying3
  a3 := Tryz.isAgg3
  z3 := Tryz.sizeOf3
  v3 := Tryz.zeroValue3
  t4 := Tryz.underlying4
  a4 := Tryz.isAgg4
  z4 := Tryz.sizeOf4
  v4 := Tryz.zeroValue4
  t9 := Tryz.underlying9
  a9 := Tryz.isAgg9
  z9 := Tryz.sizeOf9
  v9 := Tryz.zeroValue9
  t24 := Tryz.underlying139
  a24 := Tryz.isAgg139
  z24 := Tryz.sizeOf139
  v24 := Tryz.zeroValue139 }
open Go.RowKit in
/-- strings.CutPrefix: "CutPrefix returns s without the provided leading prefix string and reports whether it found the prefix. If s doesn't start with prefix, CutPrefix returns s, false. If prefix is the empty string, CutPrefix returns s, true.": IT RETURNS '(Lib.trimPrefix s p, Lib.hasPrefix s p)'; the world is as it was. (LAID: no walk: one application.) -/
theorem Tryz.strings_CutPrefix (s p : ByteArray) (w : World) :
    Calls Tryz.prog 112 #[.string s, .string p] w fun e w' => e = .returned (.tuple #[.string ⟨(Lib.trimPrefix s.data.toList p.data.toList).toArray⟩, .bool (Lib.hasPrefix s.data.toList p.data.toList)]) ∧ w' = w := Any.strings_CutPrefix Tryz.lays103 s p w
def Tryz.lays172_ren : Go.Shelf.Ren := ⟨fun | 172 => 156 | 244 => 195 | 245 => 159 | 247 => 158 | 279 => 197 | 280 => 198 | 281 => 199 | 282 => 200 | 287 => 196 | 316 => 218 | 171 => 138 | 205 => 219 | 321 => 216 | 322 => 217 | 243 => 173 | 246 => 203 | 283 => 220 | 284 => 221 | 285 => 222 | 286 => 223 | 129 => 231 | 317 => 230 | 318 => 232 | 319 => 233 | 320 => 234 | 337 => 237 | 338 => 238 | n => n, fun | 9 => 9 | 3 => 3 | 75 => 145 | 76 => 173 | 4 => 4 | 5 => 5 | 167 => 215 | 37 => 73 | 0 => 0 | 85 => 146 | 2 => 2 | 168 => 218 | 53 => 117 | 175 => 216 | 46 => 70 | 210 => 238 | 127 => 200 | 145 => 250 | 143 => 248 | 21 => 21 | 171 => 240 | 173 => 243 | 212 => 251 | 51 => 127 | 20 => 20 | 213 => 252 | 232 => 261 | 233 => 262 | 80 => 36 | n => n, fun | 15 => 1 | 16 => 2 | 17 => 3 | 18 => 6 | 19 => 7 | n => n⟩
theorem Tryz.lays172 : Go.Proofs.Lays.n172 Tryz.prog Tryz.lays172_ren := {
  mixed := by kernel_rfl
  f129 := Tryz.func231.trans (congrArg some (by kernel_rfl))
  f171 := Tryz.func138.trans (congrArg some (by kernel_rfl))
  f172 := Tryz.func156.trans (congrArg some (by kernel_rfl))
  f205 := Tryz.func219.trans (congrArg some (by kernel_rfl))
  f243 := Tryz.func173.trans (congrArg some (by kernel_rfl))
  f244 := Tryz.func195.trans (congrArg some (by kernel_rfl))
  f245 := Tryz.func159.trans (congrArg some (by kernel_rfl))
  f246 := Tryz.func203.trans (congrArg some (by kernel_rfl))
  f247 := Tryz.func158.trans (congrArg some (by kernel_rfl))
  f279 := Tryz.func197.trans (congrArg some (by kernel_rfl))
  f280 := Tryz.func198.trans (congrArg some (by kernel_rfl))
  f281 := Tryz.func199.trans (congrArg some (by kernel_rfl))
  f282 := Tryz.func200.trans (congrArg some (by kernel_rfl))
  f283 := Tryz.func220.trans (congrArg some (by kernel_rfl))
  f284 := Tryz.func221.trans (congrArg some (by kernel_rfl))
  f285 := Tryz.func222.trans (congrArg some (by kernel_rfl))
  f286 := Tryz.func223.trans (congrArg some (by kernel_rfl))
  f287 := Tryz.func196.trans (congrArg some (by kernel_rfl))
  f316 := Tryz.func218.trans (congrArg some (by kernel_rfl))
  f317 := Tryz.func230.trans (congrArg some (by kernel_rfl))
  f318 := Tryz.func232.trans (congrArg some (by kernel_rfl))
  f319 := Tryz.func233.trans (congrArg some (by kernel_rfl))
  f320 := Tryz.func234.trans (congrArg some (by kernel_rfl))
  f321 := Tryz.func216.trans (congrArg some (by kernel_rfl))
  f322 := Tryz.func217.trans (congrArg some (by kernel_rfl))
  f337 := Tryz.func237.trans (congrArg some (by kernel_rfl))
  f338 := Tryz.func238.trans (congrArg some (by kernel_rfl))
  t0 := Tryz.underlying0
  a0 := Tryz.isAgg0
  z0 := Tryz.sizeOf0
  v0 := Tryz.zeroValue0
  t2 := Tryz.underlying2
  a2 := Tryz.isAgg2
  z2 := Tryz.sizeOf2
  v2 := Tryz.zeroValue2
  t3 := Tryz.underlying3
  a3 := Tryz.isAgg3
  z3 := Tryz.sizeOf3
  v3 := Tryz.zeroValue3
  t4 := Tryz.underlying4
  a4 := Tryz.isAgg4
  z4 := Tryz.sizeOf4
  v4 := Tryz.zeroValue4
  t5 := Tryz.underlying5
  a5 := Tryz.isAgg5
  z5 := Tryz.sizeOf5
  v5 := Tryz.zeroValue5
  t9 := Tryz.underlying9
  a9 := Tryz.isAgg9
  z9 := Tryz.sizeOf9
  v9 := Tryz.zeroValue9
  t20 := Tryz.underlying20
  a20 := Tryz.isAgg20
  z20 := Tryz.sizeOf20
  v20 := Tryz.zeroValue20
  t21 := Tryz.underlying21
  a21 := Tryz.isAgg21
  z21 := Tryz.sizeOf21
  v21 := Tryz.zeroValue21
  t37 := Tryz.underlying73
  a37 := Tryz.isAgg73
  z37 := Tryz.sizeOf73
  v37 := Tryz.zeroValue73
  t46 := Tryz.underlying70
  a46 := Tryz.isAgg70
  z46 := Tryz.sizeOf70
  v46 := Tryz.zeroValue70
  t51 := Tryz.underlying127
  a51 := Tryz.isAgg127
  z51 := Tryz.sizeOf127
  v51 := Tryz.zeroValue127
  t53 := Tryz.underlying117
  a53 := Tryz.isAgg117
  z53 := Tryz.sizeOf117
  v53 := Tryz.zeroValue117
  t75 := Tryz.underlying145
  a75 := Tryz.isAgg145
  z75 := Tryz.sizeOf145
  v75 := Tryz.zeroValue145
  t76 := Tryz.underlying173
  a76 := Tryz.isAgg173
  z76 := Tryz.sizeOf173
  v76 := Tryz.zeroValue173
  t85 := Tryz.underlying146
  a85 := Tryz.isAgg146
  z85 := Tryz.sizeOf146
  v85 := Tryz.zeroValue146
  t127 := Tryz.underlying200
  a127 := Tryz.isAgg200
  z127 := Tryz.sizeOf200
  v127 := Tryz.zeroValue200
  t143 := Tryz.underlying248
  a143 := Tryz.isAgg248
  z143 := Tryz.sizeOf248
  v143 := Tryz.zeroValue248
  t145 := Tryz.underlying250
  a145 := Tryz.isAgg250
  z145 := Tryz.sizeOf250
  v145 := Tryz.zeroValue250
  t167 := Tryz.underlying215
  a167 := Tryz.isAgg215
  z167 := Tryz.sizeOf215
  v167 := Tryz.zeroValue215
  t168 := Tryz.underlying218
  a168 := Tryz.isAgg218
  z168 := Tryz.sizeOf218
  v168 := Tryz.zeroValue218
  t171 := Tryz.underlying240
  a171 := Tryz.isAgg240
  z171 := Tryz.sizeOf240
  v171 := Tryz.zeroValue240
  t173 := Tryz.underlying243
  a173 := Tryz.isAgg243
  z173 := Tryz.sizeOf243
  v173 := Tryz.zeroValue243
  t175 := Tryz.underlying216
  a175 := Tryz.isAgg216
  z175 := Tryz.sizeOf216
  v175 := Tryz.zeroValue216
  t210 := Tryz.underlying238
  a210 := Tryz.isAgg238
  z210 := Tryz.sizeOf238
  v210 := Tryz.zeroValue238
  t212 := Tryz.underlying251
  a212 := Tryz.isAgg251
  z212 := Tryz.sizeOf251
  v212 := Tryz.zeroValue251
  t213 := Tryz.underlying252
  a213 := Tryz.isAgg252
  z213 := Tryz.sizeOf252
  t232 := Tryz.underlying261
  a232 := Tryz.isAgg261
  z232 := Tryz.sizeOf261
  v232 := Tryz.zeroValue261
  t233 := Tryz.underlying262
  a233 := Tryz.isAgg262
  z233 := Tryz.sizeOf262
  v233 := Tryz.zeroValue262
  g15 := by kernel_rfl
  g16 := by kernel_rfl
  g17 := by kernel_rfl
  g18 := by kernel_rfl
  g19 := by kernel_rfl }
open Go.RowKit in
/-- strconv.Atoi: "Atoi is equivalent to ParseInt(s, 10, 0), converted to type int.": AT A DECIMAL NUMERAL OF AT MOST 18 BYTES: its value, and a nil error. The world behind the call: the one new row that the library's '[]byte(s)' lays. (LAID: no walk: one application.) -/
theorem Tryz.strconv_Atoi (s : ByteArray) (n : Int) (hl : s.size ≤ 18) (h : Lib.atoi s.data.toList = some n) (w : World) :
    Calls Tryz.prog 156 #[.string s] w fun e w' => e = .returned (.tuple #[.int .i64 n, .nilIface]) ∧ ∃ t, w' = Lib.bytesWorld w 5 t := Any.strconv_Atoi Tryz.lays172 s n hl h w
def Tryz.lays217_ren : Go.Shelf.Ren := ⟨fun | 217 => 208 | 266 => 225 | n => n, fun | 9 => 9 | 5 => 5 | 3 => 3 | n => n, fun | n => n⟩
theorem Tryz.lays217 : Go.Proofs.Lays.n217 Tryz.prog Tryz.lays217_ren := {
  mixed := by kernel_rfl
  f217 := Tryz.func208.trans (congrArg some (by kernel_rfl))
  f266 := Tryz.func225.trans (congrArg some (by kernel_rfl))
  t3 := Tryz.underlying3
  a3 := Tryz.isAgg3
  z3 := Tryz.sizeOf3
  v3 := Tryz.zeroValue3
  t5 := Tryz.underlying5
  a5 := Tryz.isAgg5
  z5 := Tryz.sizeOf5
  v5 := Tryz.zeroValue5
  t9 := Tryz.underlying9
  a9 := Tryz.isAgg9
  z9 := Tryz.sizeOf9
  v9 := Tryz.zeroValue9 }
open Go.RowKit Go.Lib in
/-- internal/stringslite.IndexByte (what strings.IndexByte calls): IT RETURNS 'Lib.indexByte s c'; the world is as it was. (LAID: no walk: one application.) -/
theorem Tryz.stringslite_IndexByte (s : ByteArray) (c : Int) (w : World) :
    Calls Tryz.prog 208 #[.string s, .int .u8 c] w fun e w' => e = .returned (.int .i64 (Lib.indexByte s.data.toList c.toNat.toUInt8)) ∧ w' = w := Any.stringslite_IndexByte Tryz.lays217 s c w
end Go.Proofs
end

section
set_option linter.unusedVariables false
set_option linter.unusedSimpArgs false
namespace Go.Proofs.YtpmnjjmngogkkaaGreatDoor
open Go Go.RowKit
abbrev tenDigits : List UInt8 := [48, 49, 50, 51, 52, 53, 54, 55, 56, 57]
theorem ten_contains (c : UInt8) : tenDigits.contains c = true ↔ Dig c := by
  have h := c.toNat_lt
  constructor
  · intro h
    simp only [List.contains_eq_mem, decide_eq_true_eq, List.mem_cons, List.not_mem_nil, or_false] at h
    rcases h with rfl | rfl | rfl | rfl | rfl | rfl | rfl | rfl | rfl | rfl <;> exact ⟨by decide, by decide⟩
  · rintro ⟨h1, h2⟩
    simp only [List.contains_eq_mem, decide_eq_true_eq, List.mem_cons, List.not_mem_nil, or_false]
    have e : ∀ k : UInt8, c.toNat = k.toNat → c = k := fun k hk => UInt8.toNat_inj.1 hk
    have : c.toNat = 48 ∨ c.toNat = 49 ∨ c.toNat = 50 ∨ c.toNat = 51 ∨ c.toNat = 52 ∨ c.toNat = 53 ∨ c.toNat = 54 ∨ c.toNat = 55 ∨ c.toNat = 56 ∨ c.toNat = 57 := by omega
    rcases this with h | h | h | h | h | h | h | h | h | h
    · exact .inl (e 48 h)
    · exact .inr (.inl (e 49 h))
    · exact .inr (.inr (.inl (e 50 h)))
    · exact .inr (.inr (.inr (.inl (e 51 h))))
    · exact .inr (.inr (.inr (.inr (.inl (e 52 h)))))
    · exact .inr (.inr (.inr (.inr (.inr (.inl (e 53 h))))))
    · exact .inr (.inr (.inr (.inr (.inr (.inr (.inl (e 54 h)))))))
    · exact .inr (.inr (.inr (.inr (.inr (.inr (.inr (.inl (e 55 h))))))))
    · exact .inr (.inr (.inr (.inr (.inr (.inr (.inr (.inr (.inl (e 56 h)))))))))
    · exact .inr (.inr (.inr (.inr (.inr (.inr (.inr (.inr (.inr (e 57 h)))))))))
theorem dropW_nil {p : UInt8 → Bool} : ∀ {l : List UInt8}, l.dropWhile p = [] ↔ ∀ x ∈ l, p x = true
  | [] => by simp
  | c :: r => by
    rw [List.dropWhile_cons]
    split
    · rename_i h
      rw [dropW_nil]
      simp [h]
    · rename_i h
      constructor
      · intro e; cases e
      · intro e; exact absurd (e c (List.mem_cons_self ..)) h
theorem trim_nil (s : List UInt8) : Lib.trimS s tenDigits = [] ↔ ∀ c ∈ s, Dig c := by
  unfold Lib.trimS Lib.trimLeftS Lib.trimRightS
  rw [dropW_nil]
  constructor
  · intro h
    have h2 : ∀ c ∈ s.reverse.dropWhile (tenDigits.contains ·), Dig c := fun c hc => (ten_contains c).1 (h c (List.mem_reverse.2 hc))
    have h3 : s.reverse.dropWhile (tenDigits.contains ·) = [] := by
      cases hd : s.reverse.dropWhile (tenDigits.contains ·) with
      | nil => rfl
      | cons c r =>
        exfalso
        have h4 : tenDigits.contains c = true := (ten_contains c).2 (h2 c (by rw [hd]; exact List.mem_cons_self ..))
        have h5 := List.head?_dropWhile_not (tenDigits.contains ·) s.reverse
        rw [hd] at h5
        simp only [List.head?_cons] at h5
        rw [h4] at h5
        cases h5
    intro c hc
    exact (ten_contains c).1 (dropW_nil.1 h3 c (List.mem_reverse.2 hc))
  · intro h c hc
    have h1 := List.mem_reverse.1 hc
    exact (ten_contains c).2 (h c (List.mem_reverse.1 ((List.dropWhile_sublist _).subset h1)))
theorem strTrim_c {w : World} {s : List UInt8} (hl : s.length ≤ 9223372036854775807) :
    Gives Tryz.prog 155 [strV s, strV tenDigits] w fun v' w' => v' = strV (Lib.trimS s tenDigits) ∧ Ext w w' :=
  Calls.mono (Any.strings_Trim_laid Tryz.lays160 (by kernel_rfl) ⟨s.toArray⟩ ⟨tenDigits.toArray⟩ w (by rw [size_str]; exact hl) (by decide) (ascii_of_all (by decide))) fun e w' ⟨he, hw⟩ => ⟨_, he, rfl, .of_below hw⟩
theorem isDigits_c {w : World} {s : List UInt8} (hl : s.length ≤ 9223372036854775807) :
    Gives Tryz.prog 113 [strV s] w fun v' w' => v' = .bool (tst (DecL s)) ∧ Ext w w' := by
  have hbd : ¬ (s = [] ∨ (s.head? = some 48 ∧ 1 < s.length)) → (DecL s ↔ ∀ c ∈ s, Dig c) := by
    intro h
    refine ⟨fun h2 => h2.2.1, fun h2 => ⟨fun e => h (.inl e), h2, fun h3 => ?_⟩⟩
    have h4 : ¬ 1 < s.length := fun h4 => h (.inr ⟨h3, h4⟩)
    have h5 : s ≠ [] := fun e => h (.inl e)
    have := List.length_pos_iff.2 h5
    omega
  refine gives_of Tryz.func113 rfl rfl rfl ?_
  repeat (first | refine wp_seq_region ?_ | refine wp_seq_seq ?_ | refine wp_region ?_ | refine r_move (by conv => (lhs; whnf)) ?_ | refine r_assign (by conv => (lhs; whnf)) ?_ | refine r_nil ?_)
  refine r_eqlS (b := []) rfl rfl ?_
  repeat (first | refine r_move (by conv => (lhs; whnf)) ?_)
  refine r_mid [(5, 14)] (fun ρ w' => ρ 14 = .bool (tst (s = [] ∨ (s.head? = some 48 ∧ 1 < s.length))) ∧ w' = w) ?_ ?_
  · refine r_guard_split rfl rfl ?_ ?_ <;> intro hnil
    · repeat (first | refine r_nil ?_ | refine q_then ?_ | refine r_guard_skip rfl rfl rfl ?_ | refine r_guard_undef rfl rfl ?_ | refine r_pick_true rfl (by conv => (lhs; whnf)) ?_)
      exact ⟨by (repeat (first | refine agree_upd rfl ?_ | exact agree_over | refine agree_sub rfl ?_ | exact agree_refl | refine agree_base rfl ?_ | refine agree_base' rfl ?_)), by rw [tst_true (Or.inl hnil)]; rfl, rfl⟩
    · obtain ⟨c, hc⟩ : ∃ c, s[0]? = some c := ⟨s[0]'(List.length_pos_iff.2 hnil), List.getElem?_eq_getElem _⟩
      have hc48 : (c.toNat : Int) = 48 ↔ s.head? = some 48 := by
        rw [List.head?_eq_getElem?, hc]
        constructor
        · intro h
          congr 1
          apply UInt8.toNat_inj.1
          show c.toNat = 48
          omega
        · intro h
          have := Option.some.inj h
          subst this
          rfl
      repeat (first | refine r_indexS 0 rfl rfl rfl hc ?_ | refine r_move (by conv => (lhs; whnf)) ?_ | refine r_guard_run rfl rfl ?_ | refine r_eql rfl rfl ?_)
      refine r_guard_split rfl rfl ?_ ?_ <;> intro h48
      · repeat (first | refine r_lenS rfl ?_ | refine r_move (by conv => (lhs; whnf)) ?_ | refine r_nil ?_ | refine q_then ?_ | refine r_guard_run rfl rfl ?_ | refine r_pick_true rfl (by conv => (lhs; whnf)) ?_ | refine r_pick_false rfl (by conv => (lhs; whnf)) ?_ | refine r_gtr rfl rfl ?_)
        refine ⟨by (repeat (first | refine agree_upd rfl ?_ | exact agree_over | refine agree_sub rfl ?_ | exact agree_refl | refine agree_base rfl ?_ | refine agree_base' rfl ?_)), congrArg Value.bool (tst_congr ?_), rfl⟩
        exact ⟨fun h => Or.inr ⟨hc48.1 h48, by omega⟩, fun h => h.elim (fun h => absurd h hnil) fun h => by omega⟩
      · repeat (first | refine r_nil ?_ | refine q_then ?_ | refine r_guard_run rfl rfl ?_ | refine r_guard_skip rfl rfl rfl ?_ | refine r_pick_false rfl (by conv => (lhs; whnf)) ?_)
        refine ⟨by (repeat (first | refine agree_upd rfl ?_ | exact agree_over | refine agree_sub rfl ?_ | exact agree_refl | refine agree_base rfl ?_ | refine agree_base' rfl ?_)), ?_, rfl⟩
        rw [tst_false (show ¬ (s = [] ∨ (s.head? = some 48 ∧ 1 < s.length)) from fun h => h.elim hnil fun h => h48 (hc48.2 h.1))]
        rfl
  rintro u1 w1 ⟨h14, rfl⟩
  refine wp_learn 14 h14 ?_
  clear h14
  skip
  try refine wp_seq_cond ?_
  refine wp_cond_dec rfl ?_ ?_ <;> intro hbad
  · repeat (first | refine wp_seq_region ?_ | refine wp_region ?_ | refine r_assign (by conv => (lhs; whnf)) ?_ | refine r_nil ?_ | refine q_then ?_ | refine wp_ret ?_ | refine q_then_ret ?_)
    refine end_tmp rfl (by conv => (lhs; whnf)) ⟨?_, .refl⟩
    rw [tst_false]
    rintro ⟨h1, h2, h3⟩
    rcases hbad with h | h
    · exact h1 h
    · have := h3 h.1; omega
  · repeat (first | refine wp_seq_region ?_ | refine wp_region ?_ | refine r_move (by conv => (lhs; whnf)) ?_ | refine wp_skip ?_)
    refine r_call (strTrim_c hl) rfl ?_
    rintro v2 w2 ⟨rfl, k2⟩
    refine r_eqlS (b := []) rfl rfl ?_
    repeat (first | refine r_assign (by conv => (lhs; whnf)) ?_ | refine r_nil ?_ | refine q_then ?_ | refine wp_ret ?_)
    refine end_tmp rfl (by conv => (lhs; whnf)) ⟨?_, k2⟩
    rw [tst_congr (trim_nil s), ← tst_congr (hbd hbad)]
theorem decFrom_digs : ∀ {l : List UInt8} {a : Nat}, (∀ c ∈ l, Dig c) → Lib.decFrom a l = some (l.foldl (fun a c => 10 * a + (c.toNat - 48)) a)
  | [], a, _ => rfl
  | c :: r, a, h => by
    have h1 := h c (List.mem_cons_self ..)
    unfold Dig at h1
    have h2 := decFrom_digs (l := r) (a := a * 10 + (c.toNat - 48)) fun x hx => h x (List.mem_cons_of_mem _ hx)
    unfold Lib.decFrom Lib.digitVal
    rw [if_pos h1]
    simp only [List.foldl_cons]
    rw [h2, Nat.mul_comm a]
theorem atoi_digs {l : List UInt8} (hne : l ≠ []) (h : ∀ c ∈ l, Dig c) : Lib.atoi l = some (digV l : Int) := by
  cases l with
  | nil => exact absurd rfl hne
  | cons c r =>
    have h1 := h c (List.mem_cons_self ..)
    unfold Dig at h1
    have e45 : (c == 45) = false := by
      rw [beq_eq_false_iff_ne]
      rintro rfl
      exact absurd h1.1 (by decide)
    have e43 : (c == 43) = false := by
      rw [beq_eq_false_iff_ne]
      rintro rfl
      exact absurd h1.1 (by decide)
    have e : Lib.atoi (c :: r) = if (c == 45) = true then (Lib.decNat r).map fun (m : Nat) => -(m : Int) else if (c == 43) = true then (Lib.decNat r).map fun (m : Nat) => (m : Int) else (Lib.decNat (c :: r)).map fun (m : Nat) => (m : Int) := rfl
    have e2 : Lib.decNat (c :: r) = Lib.decFrom 0 (c :: r) := rfl
    rw [e, e45, e43, e2, decFrom_digs h]
    rfl
theorem ext_bytes {w : World} {T : TypeId} {t : ByteArray} : Ext w (Lib.bytesWorld w T t) := .of_below (Lib.bytesWorld_below w T t)
theorem atoi_c {w : World} {l : List UInt8} (hne : l ≠ []) (h : ∀ c ∈ l, Dig c) (hl : l.length ≤ 18) :
    Gives Tryz.prog 156 [strV l] w fun v' w' => v' = .tuple #[.int .i64 (digV l : Int), .nilIface] ∧ Ext w w' :=
  Calls.mono (Tryz.strconv_Atoi ⟨l.toArray⟩ (digV l : Int) (by rw [size_str]; exact hl) (atoi_digs hne h) w) fun e w' ⟨he, t, hw⟩ => ⟨_, he, rfl, hw ▸ ext_bytes⟩
end Go.Proofs.YtpmnjjmngogkkaaGreatDoor
end

section
set_option linter.unusedVariables false
set_option linter.unusedSimpArgs false
namespace Go.Proofs.YtpmnjjmngogkkaaGreatDoor
open Go Go.RowKit
theorem parsed_c {S : Nat → Prop} {w : World} {s : List UInt8} (hS : Up S w) (hd : ∀ c ∈ s, Dig c) (hl : s.length ≤ 1000000) :
    Gives Tryz.prog 114 [strV s] w fun v' w' => Ext w w' ∧ NatV S 127 .u32 w' v' (digV s) := by
  refine gives_of Tryz.func114 rfl rfl rfl ?_
  repeat (first | refine wp_seq_region ?_ | refine wp_region ?_ | refine r_assign (by conv => (lhs; whnf)) ?_ | refine r_nil ?_ | refine q_then ?_)
  try refine wp_seq_block ?_
  refine wp_for ((0, 0) :: [(0, 0), (3, 28)]) (fun k ρ w' => ∃ (L : List Nat) (v : Value), k ≤ s.length ∧ ρ 0 = strV (s.take k) ∧ ρ 3 = v ∧ (0 < k → 9 * L.length + k = s.length) ∧ L.length ≤ s.length ∧ digV (s.drop k) = nval L ∧ Digs L ∧ Ext w w' ∧ Own w.heap.size 127 1 w' v L.length (L.map fun d : Nat => .int .u32 d)) s.length ?_ ?_
  · exact ⟨[], _, Nat.le_refl _, by rw [List.take_of_length_le (Nat.le_refl _)]; rfl, rfl, by simp, by simp, by rw [List.drop_of_length_le (Nat.le_refl _)]; rfl, digs_nil, .refl, own_nil⟩
  rintro k u w1 ⟨L, v, hk, h0, h3, hcnt, hLl, hval, hLd, k1, ho⟩
  refine wp_learn 0 h0 (wp_learn 3 h3 ?_)
  clear h0 h3
  have htk : (s.take k).length = k := by rw [List.length_take]; omega
  repeat (first | refine r_lenS rfl ?_ | refine wp_seq_region ?_ | refine wp_seq_seq ?_ | refine wp_region ?_ | refine r_move (by conv => (lhs; whnf)) ?_ | refine r_nil ?_ | refine q_then ?_ | refine r_gtr rfl rfl ?_)
  try refine wp_seq_cond ?_
  refine wp_cond_dec rfl ?_ ?_ <;> intro hc
  · obtain ⟨cut, hcut⟩ : ∃ cut, cut = k - 9 := ⟨_, rfl⟩
    have hmax : max (0 : Int) (((s.take k).length : Int) - 9) = (cut : Int) := by omega
    obtain ⟨ch, hch⟩ : ∃ ch, ch = (s.take k).drop cut := ⟨_, rfl⟩
    have hchl : ch.length = k - cut := by rw [hch, List.length_drop, htk]
    have hchd : ∀ c ∈ ch, Dig c := fun c hc => hd c (List.mem_of_mem_take (List.mem_of_mem_drop (hch ▸ hc)))
    have hchne : ch ≠ [] := by intro e; rw [e] at hchl; simp at hchl; omega
    have hdv := digV_lt hchd
    have hdv9 : digV ch < 1000000000 := by
      have : 10 ^ ch.length ≤ 10 ^ 9 := Nat.pow_le_pow_right (by omega) (by omega)
      omega
    have hsd : s.drop cut = ch ++ s.drop k := by
      rw [hch]
      conv => lhs; rw [← List.take_append_drop k s]
      rw [List.drop_append_of_le_length (by omega)]
    repeat (first | refine r_lenS rfl ?_ | refine wp_seq_region ?_ | refine wp_region ?_ | refine r_move (by conv => (lhs; whnf)) ?_ | refine r_assign (by conv => (lhs; whnf)) ?_ | refine r_nil ?_ | refine q_then ?_ | refine wp_block_seq ?_ | refine wp_skip ?_ | refine r_subI rfl rfl (by omega) (by omega) ?_ | refine r_max rfl rfl ?_)
    rw [hmax]
    repeat (first | refine r_sliceS_low cut rfl rfl rfl (by omega) ?_)
    rw [← hch]
    refine r_call (atoi_c hchne hchd (by omega)) rfl ?_
    rintro v2 w2 ⟨rfl, k2⟩
    repeat (first | refine wp_seq_region ?_ | refine wp_region ?_ | refine r_move (by conv => (lhs; whnf)) ?_ | refine r_assign (by conv => (lhs; whnf)) ?_ | refine r_nil ?_ | refine r_extract rfl rfl ?_ | refine r_conv rfl (wrap_u32 (by omega) (by omega)) ?_)
    refine r_lit1 (by conv => (lhs; whnf)) rfl ?_
    intro w3 g k3 hg hgs
    refine r_append1 (by conv => (lhs; whnf)) (own_to (own_to ho k2) k3) rfl hg (by omega) rfl (fun u hu => by rw [List.mem_singleton.1 hu]; rfl) (by unfold maxLen; omega) (by omega) (by have := k1.size; have := k2.size; have := k3.size; omega) ?_
    intro v4 w4 ho4 k4
    have hlen : (L ++ [digV ch]).length = L.length + 1 := by rw [List.length_append]; rfl
    repeat (first | refine r_sliceS_high cut rfl rfl rfl (by omega) ?_ | refine wp_region ?_ | refine r_move (by conv => (lhs; whnf)) ?_ | refine r_assign (by conv => (lhs; whnf)) ?_ | refine r_nil ?_ | refine q_then ?_ | refine q_block ?_)
    refine ⟨by (repeat (first | refine agree_upd rfl ?_ | exact agree_over | refine agree_sub rfl ?_ | exact agree_refl | refine agree_base rfl ?_ | refine agree_base' rfl ?_)), cut, by omega, L ++ [digV ch], v4, by omega, ?_, rfl, by rw [hlen]; omega, by rw [hlen]; omega, ?_, hLd.append (Digs.cons hdv9 digs_nil), ?_, by simpa using ho4⟩
    · show strV ((s.take k).take cut) = _
      rw [List.take_take, Nat.min_eq_left (by omega)]
    · rw [hsd, digV_append, hval, nval_snoc, List.length_drop, show s.length - k = 9 * L.length by have := hcnt (by omega); omega, ← pow_nine, Nat.mul_comm (digV ch)]
      omega
    · exact Keeps.later ((k1.trans k2).trans k3) k4 fun i hi _ e => by have := (ho.lt i e.symm).1; omega
  · obtain rfl : k = 0 := by omega
    rw [List.drop_zero] at hval
    repeat (first | refine wp_seq_region ?_ | refine wp_region ?_ | refine r_move (by conv => (lhs; whnf)) ?_ | refine wp_exit ?_)
    refine r_call (trim_c (S := S) (v := v) (l := L) (Row.of_own ho hS) hLd) rfl ?_
    rintro v2 w2 ⟨rfl, h2⟩
    repeat (first | refine r_assign (by conv => (lhs; whnf)) ?_ | refine r_nil ?_ | refine q_then ?_ | refine wp_ret ?_)
    refine end_tmp rfl (by conv => (lhs; whnf)) ⟨k1, ?_⟩
    rw [hval]
    exact h2
theorem has_neg (s : List UInt8) : Lib.hasPrefix s [45] = tst (NegS s) := by
  unfold Lib.hasPrefix NegS
  cases s with
  | nil => rw [tst_false (by simp)]; rfl
  | cons c r =>
    by_cases h : c = 45
    · subst h
      rw [tst_true (by rfl)]
      simp [List.isPrefixOf]
    · rw [tst_false (by simpa using h)]
      simp [List.isPrefixOf]
      exact fun e => h e.symm
theorem trim_neg (s : List UInt8) : Lib.trimPrefix s [45] = Dgs s := by
  unfold Lib.trimPrefix Dgs
  rw [has_neg]
  by_cases h : NegS s
  · rw [tst_true h, if_pos h]; rfl
  · rw [tst_false h, if_neg h]; rfl
theorem cutPrefix_c {w : World} {s : List UInt8} :
    Gives Tryz.prog 112 [strV s, strV [45]] w fun v' w' => v' = .tuple #[strV (Dgs s), .bool (tst (NegS s))] ∧ w' = w :=
  Calls.mono (Tryz.strings_CutPrefix ⟨s.toArray⟩ ⟨[45].toArray⟩ w) fun e w' ⟨he, hw⟩ => ⟨_, he, by
    show Value.tuple #[.string ⟨(Lib.trimPrefix s [45]).toArray⟩, .bool (Lib.hasPrefix s [45])] = _
    rw [trim_neg, has_neg], hw⟩
set_option maxHeartbeats 1000000 in
theorem iparse_c {S : Nat → Prop} {w : World} {s : List UInt8} (hS : Up S w) (hl : s.length ≤ 140737488351232) :
    Gives Tryz.prog 54 [strV s] w fun v' w' => Ext w w' ∧
      ((35000 < s.length ∧ v' = .tuple #[.agg #[.bool false, .slice none 0 0], .int .i64 2]) ∨ (s.length ≤ 35000 ∧ (∀ z, s ≠ Lib.itoa z) ∧ v' = .tuple #[.agg #[.bool false, .slice none 0 0], .int .i64 10]) ∨ (s.length ≤ 35000 ∧ ∃ z, s = Lib.itoa z ∧ ITried S w' v' z)) := by
  have hDl := dgs_le s
  refine gives_of Tryz.func54 rfl rfl rfl ?_
  repeat (first | refine wp_seq_region ?_ | refine wp_region ?_)
  refine r_alloc (cs := [.bool false, .slice none 0 0]) rfl ?_
  intro w1 g k1 hg hgs
  repeat (first | refine r_lenS rfl ?_ | refine wp_seq_region ?_ | refine wp_seq_seq ?_ | refine wp_region ?_ | refine r_move (by conv => (lhs; whnf)) ?_ | refine r_assign (by conv => (lhs; whnf)) ?_ | refine r_nil ?_ | refine q_then ?_ | refine r_gtr rfl rfl ?_)
  try refine wp_seq_cond ?_
  refine wp_cond_dec rfl ?_ ?_ <;> intro hlong
  · repeat (first | refine wp_seq_region ?_ | refine wp_region ?_)
    refine r_build0 (cs := [.bool false, .slice none 0 0]) rfl ?_
    refine r_store2 rfl (by conv => (lhs; whnf)) hg rfl rfl ?_
    intro w2 k2 hg2
    repeat (first | refine r_assign (by conv => (lhs; whnf)) ?_ | refine r_nil ?_ | refine q_then ?_ | refine wp_ret ?_ | refine q_then_ret ?_)
    exact end2 rfl (resV_agg (by conv => (lhs; whnf)) hg2 rfl) (resV_tmp (by conv => (lhs; whnf))) ⟨k1.past k2 hgs, .inl ⟨by omega, rfl⟩⟩
  · repeat (first | refine wp_seq_region ?_ | refine wp_region ?_ | refine r_move (by conv => (lhs; whnf)) ?_ | refine wp_skip ?_)
    refine r_call cutPrefix_c rfl ?_
    rintro v2 w2 ⟨rfl, rfl⟩
    repeat (first | refine wp_seq_region ?_ | refine wp_seq_seq ?_ | refine wp_region ?_ | refine r_move (by conv => (lhs; whnf)) ?_ | refine r_assign (by conv => (lhs; whnf)) ?_ | refine r_nil ?_ | refine r_extract rfl rfl ?_)
    refine r_call (isDigits_c (s := Dgs s) (by omega)) rfl ?_
    rintro v3 w3 ⟨rfl, k3⟩
    repeat (first | refine r_move (by conv => (lhs; whnf)) ?_ | refine r_notB rfl ?_)
    have hbad : (¬ DecL (Dgs s) ∨ (NegS s ∧ Dgs s = [48])) ↔ ∀ z, s ≠ Lib.itoa z := by
      constructor
      · rintro (h | ⟨h1, h2⟩) z hz
        · exact h ((num_iff s).1 ⟨z, hz⟩).1
        · exact ((num_iff s).1 ⟨z, hz⟩).2 h1 (by rw [h2]; rfl)
      · intro h
        by_cases hd : DecL (Dgs s)
        · right
          have h2 : ¬ (NegS s → (Dgs s).head? ≠ some 48) := fun h2 => h _ (num_val hd h2)
          by_cases hn : NegS s
          · refine ⟨hn, ?_⟩
            have h3 : (Dgs s).head? = some 48 := Classical.byContradiction fun h3 => h2 fun _ => h3
            have h4 := hd.2.2 h3
            match hds : Dgs s, h3, h4 with
            | [c], h3, _ => simp at h3; rw [h3]
          · exact absurd (fun h3 => absurd h3 hn) h2
        · exact .inl hd
    refine r_mid [(18, 24)] (fun ρ w' => ρ 24 = .bool (tst (∀ z, s ≠ Lib.itoa z)) ∧ w' = w3) ?_ ?_
    · refine r_guard_split rfl rfl ?_ ?_ <;> intro hnd
      · repeat (first | refine r_nil ?_ | refine q_then ?_ | refine r_guard_skip rfl rfl rfl ?_ | refine r_guard_undef rfl rfl ?_ | refine r_pick_true rfl (by conv => (lhs; whnf)) ?_)
        exact ⟨by (repeat (first | refine agree_upd rfl ?_ | exact agree_over | refine agree_sub rfl ?_ | exact agree_refl | refine agree_base rfl ?_ | refine agree_base' rfl ?_)), by rw [tst_true (hbad.1 (Or.inl hnd))]; rfl, rfl⟩
      · repeat (first | refine r_move (by conv => (lhs; whnf)) ?_ | refine r_guard_run rfl rfl ?_)
        refine r_guard_split rfl rfl ?_ ?_ <;> intro hn
        · repeat (first | refine r_move (by conv => (lhs; whnf)) ?_ | refine r_guard_run rfl rfl ?_)
          refine r_eqlS (b := [48]) rfl rfl ?_
          repeat (first | refine r_nil ?_ | refine q_then ?_ | refine r_guard_run rfl rfl ?_ | refine r_pick_true rfl (by conv => (lhs; whnf)) ?_ | refine r_pick_false rfl (by conv => (lhs; whnf)) ?_)
          refine ⟨by (repeat (first | refine agree_upd rfl ?_ | exact agree_over | refine agree_sub rfl ?_ | exact agree_refl | refine agree_base rfl ?_ | refine agree_base' rfl ?_)), congrArg Value.bool (tst_congr ?_), rfl⟩
          rw [← hbad]
          exact ⟨fun h => Or.inr ⟨hn, h⟩, fun h => h.elim (fun h => absurd h hnd) fun h => h.2⟩
        · repeat (first | refine r_nil ?_ | refine q_then ?_ | refine r_guard_run rfl rfl ?_ | refine r_guard_skip rfl rfl rfl ?_ | refine r_pick_false rfl (by conv => (lhs; whnf)) ?_)
          refine ⟨by (repeat (first | refine agree_upd rfl ?_ | exact agree_over | refine agree_sub rfl ?_ | exact agree_refl | refine agree_base rfl ?_ | refine agree_base' rfl ?_)), ?_, rfl⟩
          rw [tst_false (show ¬ ∀ z, s ≠ Lib.itoa z from fun h => (hbad.2 h).elim hnd fun h => hn h.1)]
          rfl
    rintro u4 w4 ⟨h24, rfl⟩
    refine wp_learn 24 h24 ?_
    clear h24
    have hg4 := hg.to k3
    skip
    try refine wp_seq_cond ?_
    refine wp_cond_dec rfl ?_ ?_ <;> intro hb
    · repeat (first | refine wp_seq_region ?_ | refine wp_region ?_)
      refine r_build0 (cs := [.bool false, .slice none 0 0]) rfl ?_
      refine r_store2 rfl (by conv => (lhs; whnf)) hg4 rfl rfl ?_
      intro w5 k5 hg5
      repeat (first | refine r_assign (by conv => (lhs; whnf)) ?_ | refine r_nil ?_ | refine q_then ?_ | refine wp_ret ?_ | refine q_then_ret ?_)
      exact end2 rfl (resV_agg (by conv => (lhs; whnf)) hg5 rfl) (resV_tmp (by conv => (lhs; whnf))) ⟨(k1.trans k3).past k5 hgs, .inr (.inl ⟨by omega, hb, rfl⟩)⟩
    · have hgood : DecL (Dgs s) ∧ (NegS s → (Dgs s).head? ≠ some 48) := by
        refine (num_iff s).1 (Classical.byContradiction fun h => hb fun z hz => h ⟨z, hz⟩)
      have hS4 := hS.to (k1.trans k3)
      repeat (first | refine wp_seq_region ?_ | refine wp_region ?_ | refine r_move (by conv => (lhs; whnf)) ?_ | refine wp_skip ?_)
      refine r_call (parsed_c hS4 hgood.1.2.1 (by omega)) rfl ?_
      rintro v5 w5 ⟨k5, h5⟩
      refine r_call (signed_c (p := NegS s) (n := digV (Dgs s)) (numV s) h5 ?_ ?_) rfl ?_
      · unfold numV; split <;> omega
      · unfold numV
        split
        · rename_i h; exact ⟨fun h2 => ⟨h, by omega⟩, fun h2 => by omega⟩
        · rename_i h; exact ⟨fun h2 => by omega, fun h2 => absurd h2.1 h⟩
      rintro v6 w6 ⟨k6, h6⟩
      repeat (first | refine r_func ?_)
      refine r_call (iattempt_c ((hS4.to k5).to k6) h6) rfl ?_
      rintro v7 w7 ⟨k7, r, e, rfl, hor⟩
      repeat (first | refine r_extract rfl rfl ?_)
      have k' := (((k1.trans k3).trans k5).trans k6).trans k7
      have hg7 := ((hg4.to k5).to k6).to k7
      rcases hor with ⟨hf, rfl, m, rfl, hm⟩ | ⟨hf, rfl, m, rfl, hm⟩
      · refine r_store2 rfl rfl hg7 rfl hm.one ?_
        intro w8 k8 hg8
        repeat (first | refine r_assign (by conv => (lhs; whnf)) ?_ | refine r_nil ?_ | refine q_then ?_ | refine wp_ret ?_)
        exact end2 rfl (resV_agg (by conv => (lhs; whnf)) hg8 rfl) (resV_tmp (by conv => (lhs; whnf))) ⟨Keeps.past k' k8 hgs, .inr (.inr ⟨by omega, _, num_val hgood.1 hgood.2, _, _, rfl, .inl ⟨hf, rfl, m, rfl, hm.wrT k8 hg7 (by decide)⟩⟩)⟩
      · refine r_store2 rfl rfl hg7 rfl hm.one ?_
        intro w8 k8 hg8
        repeat (first | refine r_assign (by conv => (lhs; whnf)) ?_ | refine r_nil ?_ | refine q_then ?_ | refine wp_ret ?_)
        exact end2 rfl (resV_agg (by conv => (lhs; whnf)) hg8 rfl) (resV_tmp (by conv => (lhs; whnf))) ⟨Keeps.past k' k8 hgs, .inr (.inr ⟨by omega, _, num_val hgood.1 hgood.2, _, _, rfl, .inr ⟨hf, rfl, m, rfl, hm.wrT k8 hg7 (by decide)⟩⟩)⟩
end Go.Proofs.YtpmnjjmngogkkaaGreatDoor
end

section
set_option linter.unusedVariables false
set_option linter.unusedSimpArgs false
namespace Go.Proofs.YtpmnjjmngogkkaaGreatDoor
open Go Go.RowKit
theorem cut_idx (l : List UInt8) (c : UInt8) : (Lib.indexByte l c = -1 ∧ c ∉ l) ∨ ∃ a b, l = a ++ c :: b ∧ c ∉ a ∧ Lib.indexByte l c = (a.length : Int) := by
  induction l with
  | nil => exact .inl ⟨rfl, by simp⟩
  | cons x l ih =>
    unfold Lib.indexByte
    by_cases hx : x = c
    · subst hx
      exact .inr ⟨[], l, rfl, by simp, by simp⟩
    · have hb : (x == c) = false := by simpa using hx
      rcases ih with ⟨h1, h2⟩ | ⟨a, b, rfl, h2, h3⟩
      · refine .inl ⟨by simp [hb, h1], ?_⟩
        intro h
        rcases List.mem_cons.1 h with h | h
        · exact hx h.symm
        · exact h2 h
      · refine .inr ⟨x :: a, b, rfl, ?_, ?_⟩
        · intro h
          rcases List.mem_cons.1 h with h | h
          · exact hx h.symm
          · exact h2 h
        · rw [h3]
          have : ((a.length : Int) == -1) = false := by simp
          simp [hb, this]
theorem r_lenE {P : Program} {n : Nat} {Q : Post} {ρ : Fr} {w : World} {all rest : List Oper} {d : Tmp} {ty : TypeId} {pos : String} {aft : Array Edge} {t : TypeId} [st : StrT P t] {x : Operand} {l : List UInt8} (m : Int) (hv : ev ρ x = strV l) (hm : (l.length : Int) = m)
    (h : WpR P n all Q rest (upd ρ d (.int .i64 m)) w) : WpR P n all Q (⟨some d, .call ⟨.builtin .len, #[x], #[t]⟩, ty, pos, aft, none⟩ :: rest) ρ w := r_lenS hv (by rw [hm]; exact h)
theorem indexByte_c {w : World} {s : List UInt8} :
    Gives Tryz.prog 208 [strV s, .int .u8 47] w fun v' w' => v' = .int .i64 (Lib.indexByte s 47) ∧ w' = w :=
  Calls.mono (Tryz.stringslite_IndexByte ⟨s.toArray⟩ 47 w) fun e w' ⟨he, hw⟩ => ⟨_, he, rfl, hw⟩
theorem sindex_c {w : World} {s : List UInt8} (hl : s.length ≤ 9223372036854775806) :
    Gives Tryz.prog 186 [strV s, strV [47]] w fun v' w' => v' = .int .i64 (Lib.indexByte s 47) ∧ w' = w := by
  refine gives_of Tryz.func186 rfl rfl rfl ?_
  repeat (first | refine r_lenE 1 rfl rfl ?_ | refine wp_seq_region ?_ | refine wp_seq_bseq ?_ | refine wp_region ?_ | refine r_move (by conv => (lhs; whnf)) ?_ | refine r_assign (by conv => (lhs; whnf)) ?_ | refine r_nil ?_ | refine wp_block_seq ?_ | refine r_guard_run rfl rfl ?_ | refine r_eql rfl rfl ?_ | refine r_guard_no rfl rfl (by omega) ?_)
  refine r_eqlS (a := [47]) (b := s) rfl rfl ?_
  repeat (first | refine r_assign (by conv => (lhs; whnf)) ?_ | refine r_nil ?_ | refine q_then ?_ | refine r_pick_false rfl (by conv => (lhs; whnf)) ?_)
  try refine wp_seq_cond ?_
  refine wp_cond_dec rfl ?_ ?_ <;> intro hc
  · have h47 : s = [47] := by simpa using hc.symm
    subst h47
    repeat (first | refine wp_seq_region ?_ | refine wp_region ?_ | refine r_assign (by conv => (lhs; whnf)) ?_ | refine r_nil ?_ | refine q_then ?_ | refine wp_ret ?_ | refine q_then_ret ?_ | refine q_block_ret ?_)
    exact end_tmp rfl (by conv => (lhs; whnf)) ⟨by rw [show Lib.indexByte [47] 47 = 0 from by simp [Lib.indexByte]], rfl⟩
  · repeat (first | refine r_indexS 0 rfl rfl rfl (c := 47) rfl ?_ | refine wp_seq_region ?_ | refine wp_region ?_ | refine r_move (by conv => (lhs; whnf)) ?_ | refine r_assign (by conv => (lhs; whnf)) ?_ | refine r_nil ?_ | refine q_then ?_ | refine r_eql rfl rfl ?_ | refine wp_cond_yes rfl (by omega) ?_)
    refine r_call (indexByte_c (s := s)) rfl ?_
    rintro v2 w2 ⟨rfl, rfl⟩
    repeat (first | refine r_assign (by conv => (lhs; whnf)) ?_ | refine r_nil ?_ | refine q_then ?_ | refine wp_ret ?_ | refine q_then_ret ?_ | refine q_block_ret ?_)
    exact end_tmp rfl (by conv => (lhs; whnf)) ⟨rfl, rfl⟩
/-- What a cut gives. -/
def CutR (v : Value) (s : List UInt8) : Prop := ((47 : UInt8) ∉ s ∧ v = .tuple #[strV s, strV [], .bool false]) ∨ ∃ a b, s = a ++ 47 :: b ∧ (47 : UInt8) ∉ a ∧ v = .tuple #[strV a, strV b, .bool true]
theorem slcut_c {w : World} {s : List UInt8} (hl : s.length ≤ 9223372036854775806) :
    Gives Tryz.prog 153 [strV s, strV [47]] w fun v' w' => Ext w w' ∧ CutR v' s := by
  refine gives_of Tryz.func153 rfl rfl rfl ?_
  repeat (first | refine wp_seq_region ?_ | refine wp_seq_seq ?_ | refine wp_region ?_ | refine r_move (by conv => (lhs; whnf)) ?_ | refine r_assign (by conv => (lhs; whnf)) ?_ | refine r_nil ?_)
  refine r_call (sindex_c hl) rfl ?_
  rintro v1 w1 ⟨rfl, rfl⟩
  repeat (first | refine wp_seq_region ?_ | refine wp_region ?_ | refine r_move (by conv => (lhs; whnf)) ?_ | refine r_assign (by conv => (lhs; whnf)) ?_ | refine r_nil ?_ | refine q_then ?_ | refine r_geq rfl rfl ?_)
  rcases cut_idx s 47 with ⟨h1, h2⟩ | ⟨a, b, rfl, h2, h3⟩
  · rw [h1]
    repeat (first | refine wp_seq_region ?_ | refine wp_region ?_ | refine r_move (by conv => (lhs; whnf)) ?_ | refine r_assign (by conv => (lhs; whnf)) ?_ | refine r_nil ?_ | refine q_then ?_ | refine wp_ret ?_ | refine wp_skip ?_ | refine wp_cond_no rfl (by omega) ?_)
    exact end3 rfl (resV_tmp (by conv => (lhs; whnf))) (resV_tmp (by conv => (lhs; whnf))) (resV_tmp (by conv => (lhs; whnf))) ⟨.refl, .inl ⟨h2, rfl⟩⟩
  · rw [h3]
    have hla : a.length + 1 ≤ (a ++ 47 :: b).length := by simp
    repeat (first | refine wp_seq_region ?_ | refine wp_cond_yes rfl (by omega) ?_)
    refine wp_drawn 10 (by kernel_rfl) (by kernel_rfl) ?_
    apply ob_step
    · intro x w1 k1 hd
      refine r_move (by conv => (lhs; whnf)) ?_
      refine r_nil ?_
      exact ob_eq
    apply ob_step
    · intro x w1 k1 hd
      refine r_move (by conv => (lhs; whnf)) ?_
      refine r_nil ?_
      exact ob_eq
    apply ob_step
    · intro x w1 k1 hd
      refine r_sliceS_high a.length rfl rfl rfl (by omega) ?_
      refine r_nil ?_
      exact ob_eq
    apply ob_step
    · intro x w1 k1 hd
      refine r_move (by conv => (lhs; whnf)) ?_
      refine r_nil ?_
      exact ob_eq
    apply ob_step
    · intro x w1 k1 hd
      refine r_move (by conv => (lhs; whnf)) ?_
      refine r_nil ?_
      exact ob_eq
    apply ob_step
    · intro x w1 k1 hd
      refine r_move (by conv => (lhs; whnf)) ?_
      refine r_nil ?_
      exact ob_eq
    apply ob_step
    · intro x w1 k1 hd
      refine r_lenE 1 rfl rfl ?_
      refine r_nil ?_
      exact ob_eq
    apply ob_step
    · intro x w1 k1 hd
      refine r_addI rfl rfl (by omega) (by omega) ?_
      refine r_nil ?_
      exact ob_eq
    apply ob_step
    · intro x w1 k1 hd
      refine r_sliceS_low (a.length + 1) rfl rfl rfl (by omega) ?_
      refine r_nil ?_
      exact ob_eq
    apply ob_step
    · intro x w1 k1 hd
      refine r_assign (by conv => (lhs; whnf)) ?_
      refine r_nil ?_
      exact ob_eq
    refine ob_nil (ob_end ?_)
    intro x w2 k2 _
    repeat (first | refine r_assign (by conv => (lhs; whnf)) ?_ | refine r_nil ?_ | refine q_then ?_ | refine wp_ret ?_ | refine q_then_ret ?_)
    refine end3 rfl (resV_tmp (by conv => (lhs; whnf))) (resV_tmp (by conv => (lhs; whnf))) (resV_tmp (by conv => (lhs; whnf))) ⟨k2, .inr ⟨a, b, rfl, h2, ?_⟩⟩
    rw [List.take_left' rfl, show a ++ 47 :: b = (a ++ [47]) ++ b by simp, List.drop_left' (by simp)]
theorem cut_c {w : World} {s : List UInt8} (hl : s.length ≤ 9223372036854775806) :
    Gives Tryz.prog 111 [strV s, strV [47]] w fun v' w' => Ext w w' ∧ CutR v' s := by
  refine gives_of Tryz.func111 rfl rfl rfl ?_
  repeat (first | refine wp_seq_region ?_ | refine wp_region ?_ | refine r_move (by conv => (lhs; whnf)) ?_ | refine r_assign (by conv => (lhs; whnf)) ?_ | refine r_nil ?_)
  refine r_call (slcut_c hl) rfl ?_
  rintro v1 w1 ⟨k1, h1⟩
  rcases h1 with ⟨h1, rfl⟩ | ⟨a, b, h1, h2, rfl⟩
  · repeat (first | refine r_assign (by conv => (lhs; whnf)) ?_ | refine r_nil ?_ | refine q_then ?_ | refine wp_ret ?_ | refine r_extract rfl rfl ?_)
    exact end3 rfl (resV_tmp (by conv => (lhs; whnf))) (resV_tmp (by conv => (lhs; whnf))) (resV_tmp (by conv => (lhs; whnf))) ⟨k1, .inl ⟨h1, rfl⟩⟩
  · repeat (first | refine r_assign (by conv => (lhs; whnf)) ?_ | refine r_nil ?_ | refine q_then ?_ | refine wp_ret ?_ | refine r_extract rfl rfl ?_)
    exact end3 rfl (resV_tmp (by conv => (lhs; whnf))) (resV_tmp (by conv => (lhs; whnf))) (resV_tmp (by conv => (lhs; whnf))) ⟨k1, .inr ⟨a, b, h1, h2, rfl⟩⟩
end Go.Proofs.YtpmnjjmngogkkaaGreatDoor
end

section
set_option linter.unusedVariables false
set_option linter.unusedSimpArgs false
namespace Go.Proofs.YtpmnjjmngogkkaaGreatDoor
open Go Go.RowKit
/-- A numerator and a denominator that is kept (0: none), as read off a string. -/
def Parts (s : List UInt8) (n : Int) (d : Nat) : Prop :=
  (d = 0 ∧ (47 : UInt8) ∉ s ∧ s = Lib.itoa n) ∨ (2 ≤ d ∧ ∃ a, (47 : UInt8) ∉ a ∧ s = a ++ 47 :: Lib.decDigits d ∧ a = Lib.itoa n)
def denK (d : Nat) : Nat := if d = 0 then 1 else d
theorem parts_good {s : List UInt8} {n : Int} {d : Nat} (h : Parts s n d) (hg : Nat.gcd (denK d) n.natAbs = 1) : ∃ q : Rat, q.num = n ∧ bot q = d ∧ s = rstr q := by
  unfold denK at hg
  rcases h with ⟨rfl, h1, h2⟩ | ⟨h0, a, h1, rfl, h2⟩
  · exact ⟨(n : Rat), rfl, bot_int n, (rstr_none h1 _).2 ⟨rfl, h2⟩⟩
  · rw [if_neg (by omega), Nat.gcd_comm] at hg
    obtain ⟨q, h3, h4⟩ := rat_of n (d := d) (by omega) hg
    refine ⟨q, h3, ?_, (rstr_cut h1 q).2 ⟨by omega, by rw [h3]; exact h2, by rw [h4]⟩⟩
    unfold bot
    rw [if_neg (by omega), h4]
theorem parts_bad {s : List UInt8} {n : Int} {d : Nat} (h : Parts s n d) (hg : Nat.gcd (denK d) n.natAbs ≠ 1) : ∀ q, s ≠ rstr q := fun q hq => by
  unfold denK at hg
  rcases h with ⟨rfl, h1, h2⟩ | ⟨h0, a, h1, rfl, h2⟩
  · rw [if_pos rfl, Nat.gcd_one_left] at hg
    exact hg rfl
  · rw [if_neg (by omega), Nat.gcd_comm] at hg
    obtain ⟨h3, h4, h5⟩ := (rstr_cut h1 q).1 hq
    have h6 := congrArg digV h5
    rw [digV_dec, digV_dec] at h6
    rw [h2] at h4
    have h7 := itoa_inj h4
    subst h6 h7
    exact hg (rat_gcd q)
theorem dl_of_lt {n j k : Nat} (h : n < 10 ^ j) (hj : j ≤ 9 * k) : dl n ≤ k := by
  refine dl_le ?_
  rw [pow_nine]
  exact Nat.lt_of_lt_of_le h (pow_mono_10 hj)
theorem zl_itoaP {z : Int} {s : List UInt8} (h : s = Lib.itoa z) {k : Nat} (hl : s.length ≤ 9 * k) : zl z ≤ k := dl_digits (Nat.le_trans (abs_digits z) (h ▸ hl))
theorem den0_c {S : Nat → Prop} {w : World} {x m b : Value} {d : Nat} (hS : Up S w) (h1 : x.oneCell' = true) (h2 : m.oneCell' = true) (hb : NatV S 127 .u32 w b d) :
    Gives Tryz.prog 115 [.agg #[x, m, b]] w fun v' w' => Ext w w' ∧ NatV S 127 .u32 w' v' (denK d) := by
  have hl := @dl_eq_zero d
  unfold dl at hl
  unfold denK
  refine gives_of Tryz.func115 rfl rfl rfl ?_
  have k : Ext w w := .refl
  repeat (first | refine wp_seq_region ?_ | refine wp_region ?_)
  refine r_box (cs := [x, m, b]) (by conv => (lhs; whnf)) rfl ?_
  intro w_1 g k_1 hg hs_1
  have hsg : w.heap.size ≤ g := Nat.le_trans k.size hs_1
  clear hs_1
  replace hS := hS.to k_1
  replace hb := hb.to k_1
  replace k := k.trans k_1
  clear k_1
  repeat (first | refine r_load_blk rfl hg rfl ?_ | refine wp_seq_region ?_ | refine wp_seq_seq ?_ | refine wp_region ?_ | refine r_assign (by conv => (lhs; whnf)) ?_ | refine r_nil ?_ | refine q_then ?_ | refine r_len (by conv => (lhs; whnf)) (by assumption) ?_ | refine r_eql rfl rfl ?_ | refine r_field rfl ?_)
  try refine wp_seq_cond ?_
  refine wp_cond_dec rfl ?_ ?_ <;> intro hc
  · repeat (first | refine wp_seq_region ?_ | refine wp_region ?_)
    refine r_call (one_c hS) rfl ?_
    rintro v_2 w_2 ⟨k_2, h3⟩
    replace hS := hS.to k_2
    replace hb := hb.to k_2
    replace hg := hg.to k_2
    replace k := k.trans k_2
    clear k_2
    repeat (first | refine r_assign (by conv => (lhs; whnf)) ?_ | refine r_nil ?_ | refine q_then ?_ | refine wp_ret ?_ | refine q_then_ret ?_)
    refine end_tmp rfl (by conv => (lhs; whnf)) ⟨k, ?_⟩
    rw [if_pos (hl.1 (by omega))]
    exact h3
  · repeat (first | refine r_load_blk rfl hg rfl ?_ | refine wp_seq_region ?_ | refine wp_region ?_ | refine r_assign (by conv => (lhs; whnf)) ?_ | refine r_nil ?_ | refine q_then ?_ | refine wp_ret ?_ | refine wp_skip ?_ | refine r_field rfl ?_)
    refine end_tmp rfl (by conv => (lhs; whnf)) ⟨k, ?_⟩
    rw [if_neg (fun h => hc (by have := hl.2 h; omega))]
    exact hb
theorem isOne_e {S : Nat → Prop} {w : World} {va : Value} {a : Nat} (ha : NatV S 127 .u32 w va a) :
    Gives Tryz.prog 116 [va] w fun v' w' => v' = .bool (tst (a = 1)) ∧ Ext w w' := (isOne_c ha).mono fun _ _ ⟨h, e⟩ => ⟨h, e ▸ .refl⟩
theorem bad_iff (s : List UInt8) : (¬ DecL (Dgs s) ∨ (NegS s ∧ Dgs s = [48])) ↔ ∀ z, s ≠ Lib.itoa z := by
  constructor
  · rintro (h | ⟨h1, h2⟩) z hz
    · exact h ((num_iff s).1 ⟨z, hz⟩).1
    · exact ((num_iff s).1 ⟨z, hz⟩).2 h1 (by rw [h2]; rfl)
  · intro h
    by_cases hd : DecL (Dgs s)
    · right
      have h2 : ¬ (NegS s → (Dgs s).head? ≠ some 48) := fun h2 => h _ (num_val hd h2)
      by_cases hn : NegS s
      · refine ⟨hn, ?_⟩
        have h3 : (Dgs s).head? = some 48 := Classical.byContradiction fun h3 => h2 fun _ => h3
        have h4 := hd.2.2 h3
        match hds : Dgs s, h3, h4 with
        | [c], h3, _ => simp at h3; rw [h3]
      · exact absurd (fun h3 => absurd h3 hn) h2
    · exact .inl hd
theorem dec_two {b : List UInt8} (h : DecL b) (h0 : b ≠ [48]) (h1 : b ≠ [49]) : 2 ≤ digV b := by
  have h2 := dec_digV h
  rcases Nat.lt_or_ge (digV b) 2 with h3 | h3
  · exfalso
    have h4 : digV b = 0 ∨ digV b = 1 := by omega
    rcases h4 with h4 | h4
    · rw [h4, Lib.decDigits_one (by decide)] at h2; exact h0 h2.symm
    · rw [h4, Lib.decDigits_one (by decide)] at h2; exact h1 h2.symm
  · exact h3
theorem dec_two' {b : List UInt8} (h : ¬ (DecL b ∧ b ≠ [48] ∧ b ≠ [49])) {d : Nat} (hd : 2 ≤ d) : b ≠ Lib.decDigits d := by
  rintro rfl
  refine h ⟨decL_dec d, fun e => ?_, fun e => ?_⟩
  · have := congrArg digV e; rw [digV_dec, show digV [48] = 0 from rfl] at this; omega
  · have := congrArg digV e; rw [digV_dec, show digV [49] = 1 from rfl] at this; omega
theorem numV_parts (s : List UInt8) : (numV s).natAbs = digV (Dgs s) ∧ (numV s < 0 ↔ NegS s ∧ 0 < digV (Dgs s)) := by
  unfold numV
  split
  · rename_i h; exact ⟨by omega, ⟨fun h2 => ⟨h, by omega⟩, fun h2 => by omega⟩⟩
  · rename_i h; exact ⟨by omega, ⟨fun h2 => by omega, fun h2 => absurd h2.1 h⟩⟩
/-- What stands behind the test of the form. -/
def Form2 (s a b : List UInt8) (has : Bool) : Prop := (has = false ∧ (47 : UInt8) ∉ s ∧ a = s ∧ b = []) ∨ (has = true ∧ s = a ++ 47 :: b ∧ (47 : UInt8) ∉ a)
theorem form_bad {s a b : List UInt8} {has : Bool} (h : Form2 s a b has) (hb : (∀ z, a ≠ Lib.itoa z) ∨ (has = true ∧ ¬ (DecL b ∧ b ≠ [48] ∧ b ≠ [49]))) : ∀ q, s ≠ rstr q := fun q hq => by
  rcases h with ⟨rfl, h1, rfl, rfl⟩ | ⟨rfl, rfl, h1⟩
  · rcases hb with hb | ⟨hb, _⟩
    · exact hb _ ((rstr_none h1 q).1 hq).2
    · cases hb
  · obtain ⟨h2, h3, h4⟩ := (rstr_cut h1 q).1 hq
    rcases hb with hb | ⟨_, hb⟩
    · exact hb _ h3
    · have := q.den_pos
      exact dec_two' hb (d := q.den) (by omega) h4
set_option maxHeartbeats 2000000 in
theorem rparse_c {S : Nat → Prop} {w : World} {s : List UInt8} (hS : Up S w) (hl : s.length ≤ 140737488351232) :
    Gives Tryz.prog 53 [strV s] w fun v' w' => Ext w w' ∧
      ((70000 < s.length ∧ v' = .tuple #[.agg #[.bool false, .slice none 0 0, .slice none 0 0], .int .i64 2]) ∨ (s.length ≤ 70000 ∧ (∀ q, s ≠ rstr q) ∧ v' = .tuple #[.agg #[.bool false, .slice none 0 0, .slice none 0 0], .int .i64 10]) ∨ (s.length ≤ 70000 ∧ ∃ q, s = rstr q ∧ Tried S w' v' q)) := by
  refine gives_of Tryz.func53 rfl rfl rfl ?_
  have k : Ext w w := .refl
  repeat (first | refine wp_seq_region ?_ | refine wp_region ?_)
  refine r_alloc (cs := [.bool false, .slice none 0 0, .slice none 0 0]) rfl ?_
  intro w_1 g k_1 hg hs_1
  have hsg : w.heap.size ≤ g := Nat.le_trans k.size hs_1
  clear hs_1
  replace hS := hS.to k_1
  replace k := k.trans k_1
  clear k_1
  repeat (first | refine r_lenS rfl ?_ | refine wp_seq_region ?_ | refine wp_seq_seq ?_ | refine wp_region ?_ | refine r_move (by conv => (lhs; whnf)) ?_ | refine r_assign (by conv => (lhs; whnf)) ?_ | refine r_nil ?_ | refine q_then ?_ | refine r_gtr rfl rfl ?_)
  try refine wp_seq_cond ?_
  refine wp_cond_dec rfl ?_ ?_ <;> intro hlong
  · repeat (first | refine wp_seq_region ?_ | refine wp_region ?_)
    refine r_build0 (cs := [.bool false, .slice none 0 0, .slice none 0 0]) rfl ?_
    refine r_store3 rfl (by conv => (lhs; whnf)) hg rfl rfl rfl rfl ?_
    intro w_2 k_2 h_2
    replace hS := hS.to k_2
    replace k : Ext w w_2 := k.past k_2 hsg
    replace hg := h_2
    clear h_2 k_2
    repeat (first | refine r_assign (by conv => (lhs; whnf)) ?_ | refine r_nil ?_ | refine q_then ?_ | refine wp_ret ?_ | refine q_then_ret ?_)
    exact end2 rfl (resV_agg (by conv => (lhs; whnf)) hg rfl) (resV_tmp (by conv => (lhs; whnf))) ⟨k, .inl ⟨by omega, rfl⟩⟩
  · repeat (first | refine wp_seq_region ?_ | refine wp_region ?_ | refine r_move (by conv => (lhs; whnf)) ?_ | refine wp_skip ?_)
    refine r_call (cut_c (s := s) (by omega)) rfl ?_
    rintro v_2 w_2 ⟨k_2, c1⟩
    replace hS := hS.to k_2
    replace hg := hg.to k_2
    replace k := k.trans k_2
    clear k_2
    obtain ⟨a, b, has, rfl, hf⟩ : ∃ a b has, v_2 = .tuple #[strV a, strV b, .bool has] ∧ Form2 s a b has := by
      rcases c1 with ⟨h1, rfl⟩ | ⟨a, b, rfl, h1, rfl⟩
      · exact ⟨s, [], false, rfl, .inl ⟨rfl, h1, rfl, rfl⟩⟩
      · exact ⟨a, b, true, rfl, .inr ⟨rfl, rfl, h1⟩⟩
    have hal : a.length ≤ 70000 ∧ b.length ≤ 70000 := by
      rcases hf with ⟨_, _, rfl, rfl⟩ | ⟨_, rfl, _⟩
      · exact ⟨by omega, by simp⟩
      · simp at hlong; exact ⟨by omega, by omega⟩
    clear c1
    have hDl := dgs_le a
    repeat (first | refine wp_seq_region ?_ | refine wp_region ?_ | refine r_move (by conv => (lhs; whnf)) ?_ | refine r_assign (by conv => (lhs; whnf)) ?_ | refine r_nil ?_ | refine r_extract rfl rfl ?_)
    refine r_call (cutPrefix_c (s := a)) rfl ?_
    rintro v3 w3 ⟨rfl, rfl⟩
    repeat (first | refine wp_seq_region ?_ | refine wp_seq_seq ?_ | refine wp_region ?_ | refine r_move (by conv => (lhs; whnf)) ?_ | refine r_assign (by conv => (lhs; whnf)) ?_ | refine r_nil ?_ | refine r_extract rfl rfl ?_)
    refine r_call (isDigits_c (s := Dgs a) (by omega)) rfl ?_
    rintro v_3 w_3 ⟨rfl, k_3⟩
    replace hS := hS.to k_3
    replace hg := hg.to k_3
    replace k := k.trans k_3
    clear k_3
    repeat (first | refine r_move (by conv => (lhs; whnf)) ?_ | refine r_notB rfl ?_)
    have hba := bad_iff a
    have hgd : ¬ (∀ z, a ≠ Lib.itoa z) → DecL (Dgs a) := fun hbad => Classical.byContradiction fun h => hbad (hba.1 (.inl h))
    refine r_mid [(27, 50)] (fun ρ w' => ρ 50 = .bool (tst ((∀ z, a ≠ Lib.itoa z) ∨ (has = true ∧ ¬ (DecL b ∧ b ≠ [48] ∧ b ≠ [49])))) ∧ Ext w_3 w') ?_ ?_
    · by_cases hbad : ∀ z, a ≠ Lib.itoa z
      · by_cases hd : DecL (Dgs a)
        · rcases hba.2 hbad with h | ⟨h1, h2⟩
          · exact absurd hd h
          · rw [tst_false (show ¬ ¬ DecL (Dgs a) from fun h => h hd), tst_true h1]
            repeat (first | refine r_move (by conv => (lhs; whnf)) ?_ | refine r_guard_run rfl rfl ?_)
            refine r_eqlS (b := [48]) rfl rfl ?_
            rw [tst_true h2]
            repeat (first | refine r_move (by conv => (lhs; whnf)) ?_ | refine r_nil ?_ | refine q_then ?_ | refine r_guard_run rfl rfl ?_ | refine r_guard_skip rfl rfl rfl ?_ | refine r_guard_undef rfl rfl ?_ | refine r_pick_true rfl (by conv => (lhs; whnf)) ?_ | refine r_pick_false rfl (by conv => (lhs; whnf)) ?_)
            exact ⟨by (repeat (first | refine agree_upd rfl ?_ | exact agree_over | refine agree_sub rfl ?_ | exact agree_refl | refine agree_base rfl ?_ | refine agree_base' rfl ?_)), by rw [tst_true (Or.inl hbad)]; rfl, .refl⟩
        · rw [tst_true hd]
          repeat (first | refine r_move (by conv => (lhs; whnf)) ?_ | refine r_nil ?_ | refine q_then ?_ | refine r_guard_skip rfl rfl rfl ?_ | refine r_guard_undef rfl rfl ?_ | refine r_pick_true rfl (by conv => (lhs; whnf)) ?_)
          exact ⟨by (repeat (first | refine agree_upd rfl ?_ | exact agree_over | refine agree_sub rfl ?_ | exact agree_refl | refine agree_base rfl ?_ | refine agree_base' rfl ?_)), by rw [tst_true (Or.inl hbad)]; rfl, .refl⟩
      · rw [tst_false (show ¬ ¬ DecL (Dgs a) from fun h => h (hgd hbad))]
        by_cases hn : NegS a
        · have h48 : ¬ Dgs a = [48] := fun h => hbad (hba.1 (.inr ⟨hn, h⟩))
          rw [tst_true hn]
          repeat (first | refine r_move (by conv => (lhs; whnf)) ?_ | refine r_guard_run rfl rfl ?_)
          refine r_eqlS (b := [48]) rfl rfl ?_
          rw [tst_false h48]
          cases has
          · repeat (first | refine r_move (by conv => (lhs; whnf)) ?_ | refine r_nil ?_ | refine q_then ?_ | refine r_guard_run rfl rfl ?_ | refine r_guard_skip rfl rfl rfl ?_ | refine r_guard_undef rfl rfl ?_ | refine r_pick_true rfl (by conv => (lhs; whnf)) ?_ | refine r_pick_false rfl (by conv => (lhs; whnf)) ?_)
            exact ⟨by (repeat (first | refine agree_upd rfl ?_ | exact agree_over | refine agree_sub rfl ?_ | exact agree_refl | refine agree_base rfl ?_ | refine agree_base' rfl ?_)), congrArg Value.bool (tst_false (fun h => h.elim hbad fun h2 => Bool.noConfusion h2.1)).symm, .refl⟩
          · repeat (first | refine r_move (by conv => (lhs; whnf)) ?_ | refine r_guard_run rfl rfl ?_ | refine r_pick_true rfl (by conv => (lhs; whnf)) ?_ | refine r_pick_false rfl (by conv => (lhs; whnf)) ?_)
            refine r_call (isDigits_c (s := b) (by omega)) rfl ?_
            rintro v5 w5 ⟨rfl, k5⟩
            by_cases hd : DecL b
            · rw [tst_true hd]
              repeat (first | refine r_move (by conv => (lhs; whnf)) ?_ | refine r_guard_run rfl rfl ?_ | refine r_not rfl ?_)
              refine r_eqlS (b := [48]) rfl rfl ?_
              by_cases h0 : b = [48]
              · rw [tst_true h0]
                repeat (first | refine r_move (by conv => (lhs; whnf)) ?_ | refine r_nil ?_ | refine q_then ?_ | refine r_guard_run rfl rfl ?_ | refine r_guard_skip rfl rfl rfl ?_ | refine r_pick_true rfl (by conv => (lhs; whnf)) ?_ | refine r_pick_false rfl (by conv => (lhs; whnf)) ?_)
                exact ⟨by (repeat (first | refine agree_upd rfl ?_ | exact agree_over | refine agree_sub rfl ?_ | exact agree_refl | refine agree_base rfl ?_ | refine agree_base' rfl ?_)), congrArg Value.bool (tst_true (Or.inr ⟨rfl, fun h => h.2.1 h0⟩)).symm, k5⟩
              · rw [tst_false h0]
                repeat (first | refine r_move (by conv => (lhs; whnf)) ?_ | refine r_guard_run rfl rfl ?_ | refine r_pick_false rfl (by conv => (lhs; whnf)) ?_)
                refine r_eqlS (b := [49]) rfl rfl ?_
                repeat (first | refine r_nil ?_ | refine q_then ?_ | refine r_guard_run rfl rfl ?_ | refine r_pick_true rfl (by conv => (lhs; whnf)) ?_ | refine r_pick_false rfl (by conv => (lhs; whnf)) ?_)
                refine ⟨by (repeat (first | refine agree_upd rfl ?_ | exact agree_over | refine agree_sub rfl ?_ | exact agree_refl | refine agree_base rfl ?_ | refine agree_base' rfl ?_)), congrArg Value.bool (tst_congr ?_), k5⟩
                exact ⟨fun h => Or.inr ⟨rfl, fun h2 => h2.2.2 h⟩, fun h => Classical.byContradiction fun h2 => h.elim hbad fun h => h.2 ⟨hd, h0, h2⟩⟩
            · rw [tst_false hd]
              repeat (first | refine r_move (by conv => (lhs; whnf)) ?_ | refine r_nil ?_ | refine q_then ?_ | refine r_guard_run rfl rfl ?_ | refine r_guard_skip rfl rfl rfl ?_ | refine r_pick_true rfl (by conv => (lhs; whnf)) ?_ | refine r_pick_false rfl (by conv => (lhs; whnf)) ?_ | refine r_not rfl ?_)
              exact ⟨by (repeat (first | refine agree_upd rfl ?_ | exact agree_over | refine agree_sub rfl ?_ | exact agree_refl | refine agree_base rfl ?_ | refine agree_base' rfl ?_)), congrArg Value.bool (tst_true (Or.inr ⟨rfl, fun h => hd h.1⟩)).symm, k5⟩
        · rw [tst_false hn]
          cases has
          · repeat (first | refine r_move (by conv => (lhs; whnf)) ?_ | refine r_nil ?_ | refine q_then ?_ | refine r_guard_run rfl rfl ?_ | refine r_guard_skip rfl rfl rfl ?_ | refine r_guard_undef rfl rfl ?_ | refine r_pick_false rfl (by conv => (lhs; whnf)) ?_)
            exact ⟨by (repeat (first | refine agree_upd rfl ?_ | exact agree_over | refine agree_sub rfl ?_ | exact agree_refl | refine agree_base rfl ?_ | refine agree_base' rfl ?_)), congrArg Value.bool (tst_false (fun h => h.elim hbad fun h2 => Bool.noConfusion h2.1)).symm, .refl⟩
          · repeat (first | refine r_move (by conv => (lhs; whnf)) ?_ | refine r_guard_run rfl rfl ?_ | refine r_guard_skip rfl rfl rfl ?_ | refine r_pick_false rfl (by conv => (lhs; whnf)) ?_)
            refine r_call (isDigits_c (s := b) (by omega)) rfl ?_
            rintro v5 w5 ⟨rfl, k5⟩
            by_cases hd : DecL b
            · rw [tst_true hd]
              repeat (first | refine r_move (by conv => (lhs; whnf)) ?_ | refine r_guard_run rfl rfl ?_ | refine r_not rfl ?_)
              refine r_eqlS (b := [48]) rfl rfl ?_
              by_cases h0 : b = [48]
              · rw [tst_true h0]
                repeat (first | refine r_move (by conv => (lhs; whnf)) ?_ | refine r_nil ?_ | refine q_then ?_ | refine r_guard_run rfl rfl ?_ | refine r_guard_skip rfl rfl rfl ?_ | refine r_pick_true rfl (by conv => (lhs; whnf)) ?_ | refine r_pick_false rfl (by conv => (lhs; whnf)) ?_)
                exact ⟨by (repeat (first | refine agree_upd rfl ?_ | exact agree_over | refine agree_sub rfl ?_ | exact agree_refl | refine agree_base rfl ?_ | refine agree_base' rfl ?_)), congrArg Value.bool (tst_true (Or.inr ⟨rfl, fun h => h.2.1 h0⟩)).symm, k5⟩
              · rw [tst_false h0]
                repeat (first | refine r_move (by conv => (lhs; whnf)) ?_ | refine r_guard_run rfl rfl ?_ | refine r_pick_false rfl (by conv => (lhs; whnf)) ?_)
                refine r_eqlS (b := [49]) rfl rfl ?_
                repeat (first | refine r_nil ?_ | refine q_then ?_ | refine r_guard_run rfl rfl ?_ | refine r_pick_true rfl (by conv => (lhs; whnf)) ?_ | refine r_pick_false rfl (by conv => (lhs; whnf)) ?_)
                refine ⟨by (repeat (first | refine agree_upd rfl ?_ | exact agree_over | refine agree_sub rfl ?_ | exact agree_refl | refine agree_base rfl ?_ | refine agree_base' rfl ?_)), congrArg Value.bool (tst_congr ?_), k5⟩
                exact ⟨fun h => Or.inr ⟨rfl, fun h2 => h2.2.2 h⟩, fun h => Classical.byContradiction fun h2 => h.elim hbad fun h => h.2 ⟨hd, h0, h2⟩⟩
            · rw [tst_false hd]
              repeat (first | refine r_move (by conv => (lhs; whnf)) ?_ | refine r_nil ?_ | refine q_then ?_ | refine r_guard_run rfl rfl ?_ | refine r_guard_skip rfl rfl rfl ?_ | refine r_pick_true rfl (by conv => (lhs; whnf)) ?_ | refine r_pick_false rfl (by conv => (lhs; whnf)) ?_ | refine r_not rfl ?_)
              exact ⟨by (repeat (first | refine agree_upd rfl ?_ | exact agree_over | refine agree_sub rfl ?_ | exact agree_refl | refine agree_base rfl ?_ | refine agree_base' rfl ?_)), congrArg Value.bool (tst_true (Or.inr ⟨rfl, fun h => hd h.1⟩)).symm, k5⟩
    rintro u5 w5 ⟨h50, k5⟩
    refine wp_learn 50 h50 ?_
    clear h50
    replace hS := hS.to k5
    replace hg := hg.to k5
    replace k := k.trans k5
    clear k5
    skip
    refine wp_cond_dec rfl ?_ ?_ <;> intro hb0
    · have hq := form_bad hf hb0
      repeat (first | refine wp_seq_region ?_ | refine wp_region ?_)
      refine r_build0 (cs := [.bool false, .slice none 0 0, .slice none 0 0]) rfl ?_
      refine r_store3 rfl (by conv => (lhs; whnf)) hg rfl rfl rfl rfl ?_
      intro w_5 k_5 h_5
      replace hS := hS.to k_5
      replace k : Ext w w_5 := k.past k_5 hsg
      replace hg := h_5
      clear h_5 k_5
      repeat (first | refine r_assign (by conv => (lhs; whnf)) ?_ | refine r_nil ?_ | refine q_then ?_ | refine wp_ret ?_ | refine q_then_ret ?_)
      exact end2 rfl (resV_agg (by conv => (lhs; whnf)) hg rfl) (resV_tmp (by conv => (lhs; whnf))) ⟨k, .inr (.inl ⟨by omega, hq, rfl⟩)⟩
    · have hbad : ¬ ∀ z, a ≠ Lib.itoa z := fun h => hb0 (.inl h)
      have hb2 : ¬ (has = true ∧ ¬ (DecL b ∧ b ≠ [48] ∧ b ≠ [49])) := fun h => hb0 (.inr h)
      have hgood : DecL (Dgs a) ∧ (NegS a → (Dgs a).head? ≠ some 48) := (num_iff a).1 (Classical.byContradiction fun h => hbad fun z hz => h ⟨z, hz⟩)
      have hav : a = Lib.itoa (numV a) := num_val hgood.1 hgood.2
      obtain ⟨hnv1, hnv2⟩ := numV_parts a
      obtain ⟨d, hd⟩ : ∃ d, d = if has = true then digV b else 0 := ⟨_, rfl⟩
      have hparts : Parts s (numV a) d := by
        rcases hf with ⟨rfl, h1, rfl, rfl⟩ | ⟨rfl, rfl, h1⟩
        · exact .inl ⟨by rw [hd, if_neg (by decide)], h1, hav⟩
        · have h2 : DecL b ∧ b ≠ [48] ∧ b ≠ [49] := Classical.byContradiction fun h => hb2 ⟨rfl, h⟩
          rw [if_pos rfl] at hd
          refine .inr ⟨by rw [hd]; exact dec_two h2.1 h2.2.1 h2.2.2, a, h1, ?_, hav⟩
          rw [hd, dec_digV h2.1]
      have hbd : has = true → ∀ c ∈ b, Dig c := fun h => (Classical.byContradiction (p := DecL b) fun h2 => hb2 ⟨h, fun h3 => h2 h3.1⟩).2.1
      have hls : dl d ≤ 7778 := by
        rw [hd]
        split
        · rename_i h
          exact dl_of_lt (digV_lt (hbd h)) (by omega)
        · rw [dl_zero]
          omega
      have hln : zl (numV a) ≤ 7778 := zl_itoaP hav (by omega)
      have hlk : dl (denK d) ≤ 7778 := by
        unfold denK
        split
        · exact Nat.le_trans (dl_le (k := 1) (by decide)) (by decide)
        · exact hls
      repeat (first | refine wp_seq_region ?_ | refine wp_region ?_ | refine r_move (by conv => (lhs; whnf)) ?_ | refine wp_skip ?_)
      refine r_call (parsed_c hS hgood.1.2.1 (by omega)) rfl ?_
      rintro v_5 w_5 ⟨k_5, h1⟩
      replace hS := hS.to k_5
      replace hg := hg.to k_5
      replace k := k.trans k_5
      clear k_5
      refine r_call (signed_c (p := NegS a) (n := digV (Dgs a)) (numV a) h1 hnv1 hnv2) rfl ?_
      rintro v_6 w_6 ⟨k_6, m, rfl, h2⟩
      replace hS := hS.to k_6
      replace hg := hg.to k_6
      replace h1 := h1.to k_6
      replace k := k.trans k_6
      clear k_6
      refine r_build2of3 (by conv => (lhs; whnf)) ?_
      skip
      refine r_new (zs := [.bool false, .slice none 0 0, .slice none 0 0]) (us := [.bool (tst (numV a < 0)), m, .slice none 0 0]) rfl (fun _ => rfl) rfl rfl (ones3 rfl h2.one rfl) ?_
      intro w_7 g9 k_7 hs_7 hg9
      have hsg9 : w.heap.size ≤ g9 := Nat.le_trans k.size hs_7
      have ne_g_g9 : g ≠ g9 := fun e => by have := hg.lt; omega
      clear hs_7
      replace hS := hS.to k_7
      replace hg := hg.to k_7
      replace h2 := h2.to k_7
      replace k := k.trans k_7
      clear k_7
      have hgg : g ≠ g9 := ne_g_g9
      repeat (first | refine wp_seq_region ?_ | refine wp_seq_seq ?_ | refine wp_region ?_ | refine r_move (by conv => (lhs; whnf)) ?_ | refine r_nil ?_ | refine q_then ?_)
      first | refine wp_seq_block ?_ | refine wp_thenB ?_ | refine wp_thenBB ?_ | skip
      refine wp_mid [(58, 60)] (fun ρ w' => ∃ bt, Up S w' ∧ Ext w w' ∧ Blk w' g 34 [.bool false, .slice none 0 0, .slice none 0 0] ∧ Blk w' g9 34 [.bool (tst (numV a < 0)), m, bt] ∧ NatV S 127 .u32 w' m (numV a).natAbs ∧ NatV S 127 .u32 w' bt d) ?_ ?_
      · cases has
        · rw [if_neg (by decide)] at hd
          subst hd
          repeat (first | refine q_then ?_ | refine wp_skip ?_ | refine wp_cond_false rfl ?_)
          exact ⟨by (repeat (first | refine agree_upd rfl ?_ | exact agree_over | refine agree_sub rfl ?_ | exact agree_refl | refine agree_base rfl ?_ | refine agree_base' rfl ?_)), _, hS, k, hg, hg9, h2, .nil⟩
        · rw [if_pos rfl] at hd
          subst hd
          repeat (first | refine wp_region ?_ | refine r_move (by conv => (lhs; whnf)) ?_ | refine wp_cond_true rfl ?_)
          refine r_call (parsed_c hS (hbd rfl) (by omega)) rfl ?_
          rintro v_8 w_8 ⟨k_8, h3⟩
          replace hS := hS.to k_8
          replace hg := hg.to k_8
          replace h2 := h2.to k_8
          replace hg9 := hg9.to k_8
          replace k := k.trans k_8
          clear k_8
          repeat (first | refine r_field rfl ?_)
          refine r_store rfl rfl hg9 (show 0 + 2 < 3 by omega) h3.one ?_
          intro w_9 k_9 h_9
          replace hS := hS.to k_9
          replace hg := hg.wr k_9 (by omega)
          replace h2 := h2.wrT k_9 hg9 (by decide)
          replace h3 := h3.wrT k_9 hg9 (by decide)
          replace k : Ext w w_9 := k.past k_9 hsg9
          replace hg9 := h_9
          clear h_9 k_9
          repeat (first | refine r_nil ?_ | refine q_then ?_)
          exact ⟨by (repeat (first | refine agree_upd rfl ?_ | exact agree_over | refine agree_sub rfl ?_ | exact agree_refl | refine agree_base rfl ?_ | refine agree_base' rfl ?_)), _, hS, k, hg, hg9, h2, h3⟩
      rintro u6 w6 ⟨bt, hS, k, hg, hg9, h2, h3⟩
      have hm1 := h2.one
      have hb1 := h3.one
      repeat (first | refine wp_seq_region ?_ | refine wp_seq_seq ?_)
      refine wp_drawn 7 (by kernel_rfl) (by kernel_rfl) ?_
      apply ob_step
      · intro x w1 k1 hd
        refine r_load_all rfl (hg9.to k1) rfl ?_
        refine r_nil ?_
        exact ob_eq
      refine ob_step (e := natE S 127 .u32 (denK d)) ?_ ?_
      · intro x w1 k1 hd
        refine r_call (den0_c (x := .bool (tst (numV a < 0))) (m := m) (b := bt) (hS.to k1) rfl hm1 (h3.to k1)) rfl ?_
        rintro v2 w2 ⟨k2, h2⟩
        exact r_nil (ob_of k2 h2)
      apply ob_step
      · intro x w1 k1 hd
        refine r_field rfl ?_
        refine r_nil ?_
        exact ob_eq
      apply ob_step
      · intro x w1 k1 hd
        refine r_field rfl ?_
        refine r_nil ?_
        exact ob_eq
      apply ob_step
      · intro x w1 k1 hd
        refine r_load_blk rfl (hg9.to k1) rfl ?_
        refine r_nil ?_
        exact ob_eq
      refine ob_step (e := natE S 127 .u32 (Nat.gcd (denK d) (numV a).natAbs)) ?_ ?_
      · intro x w1 k1 hd
        refine r_call (gcd_c (hS.to k1) hd.2.2.2.1 (h2.to k1) (by omega) (Nat.le_trans hln (by decide))) rfl ?_
        rintro v2 w2 ⟨k2, h2⟩
        exact r_nil (ob_of k2 h2)
      refine ob_step (e := Ent.eq (.bool (tst (Nat.gcd (denK d) (numV a).natAbs = 1)))) ?_ ?_
      · intro x w1 k1 hd
        refine r_call (isOne_e (S := S) hd.1) rfl ?_
        rintro v2 w2 ⟨rfl, k2⟩
        exact r_nil (ob_eqv (rfl) k2)
      refine ob_nil (ob_end ?_)
      intro x w7 k7 _
      replace hS := hS.to k7
      replace hg := hg.to k7
      replace hg9 := hg9.to k7
      replace h2 := h2.to k7
      replace h3 := h3.to k7
      replace k := k.trans k7
      clear k7
      repeat (first | refine r_nil ?_ | refine q_then ?_ | refine r_notB rfl ?_)
      refine wp_cond_dec rfl ?_ ?_ <;> intro hgc
      · have hq := parts_bad hparts hgc
        repeat (first | refine wp_seq_region ?_ | refine wp_region ?_)
        refine r_build0 (cs := [.bool false, .slice none 0 0, .slice none 0 0]) rfl ?_
        refine r_store3 rfl (by conv => (lhs; whnf)) hg rfl rfl rfl rfl ?_
        intro w_9 k_9 h_9
        replace hS := hS.to k_9
        replace hg9 := hg9.wr k_9 (by omega)
        replace h2 := h2.wrT k_9 hg (by decide)
        replace h3 := h3.wrT k_9 hg (by decide)
        replace k : Ext w w_9 := k.past k_9 hsg
        replace hg := h_9
        clear h_9 k_9
        repeat (first | refine r_assign (by conv => (lhs; whnf)) ?_ | refine r_nil ?_ | refine q_then ?_ | refine wp_ret ?_ | refine q_then_ret ?_)
        exact end2 rfl (resV_agg (by conv => (lhs; whnf)) hg rfl) (resV_tmp (by conv => (lhs; whnf))) ⟨k, .inr (.inl ⟨by omega, hq, rfl⟩)⟩
      · obtain ⟨q, hq1, hq2, hq3⟩ := parts_good hparts (Classical.not_not.1 hgc)
        have hq : RatV S w7 (.agg #[.bool (tst (numV a < 0)), m, bt]) q := by
          rw [← hq1]
          refine ⟨m, bt, rfl, ?_, ?_⟩
          · rw [hq1]; exact h2
          · rw [hq2]; exact h3
        repeat (first | refine r_load_all rfl hg9 rfl ?_ | refine wp_seq_region ?_ | refine wp_region ?_ | refine wp_skip ?_ | refine r_func ?_)
        refine r_call (rattempt_c hS hq) rfl ?_
        rintro v_9 w_9 ⟨k_9, r, e, rfl, hor⟩
        replace hS := hS.to k_9
        replace hg := hg.to k_9
        replace k := k.trans k_9
        clear k_9
        rcases hor with ⟨hf, rfl, mr, br, rfl, hm, hb⟩ | ⟨hf, rfl, mr, br, rfl, hm, hb⟩
        · skip
          repeat (first | refine r_extract rfl rfl ?_)
          refine r_store3 rfl rfl hg rfl rfl hm.one hb.one ?_
          intro w_10 k_10 h_10
          replace hS := hS.to k_10
          replace hm := hm.wrT k_10 hg (by decide)
          replace hb := hb.wrT k_10 hg (by decide)
          replace k : Ext w w_10 := k.past k_10 hsg
          replace hg := h_10
          clear h_10 k_10
          repeat (first | refine r_assign (by conv => (lhs; whnf)) ?_ | refine r_nil ?_ | refine q_then ?_ | refine wp_ret ?_)
          exact end2 rfl (resV_agg (by conv => (lhs; whnf)) hg rfl) (resV_tmp (by conv => (lhs; whnf))) ⟨k, .inr (.inr ⟨by omega, q, hq3, _, _, rfl, .inl ⟨hf, rfl, mr, br, rfl, hm, hb⟩⟩)⟩
        · skip
          repeat (first | refine r_extract rfl rfl ?_)
          refine r_store3 rfl rfl hg rfl rfl hm.one hb.one ?_
          intro w_10 k_10 h_10
          replace hS := hS.to k_10
          replace hm := hm.wrT k_10 hg (by decide)
          replace hb := hb.wrT k_10 hg (by decide)
          replace k : Ext w w_10 := k.past k_10 hsg
          replace hg := h_10
          clear h_10 k_10
          repeat (first | refine r_assign (by conv => (lhs; whnf)) ?_ | refine r_nil ?_ | refine q_then ?_ | refine wp_ret ?_)
          exact end2 rfl (resV_agg (by conv => (lhs; whnf)) hg rfl) (resV_tmp (by conv => (lhs; whnf))) ⟨k, .inr (.inr ⟨by omega, q, hq3, _, _, rfl, .inr ⟨hf, rfl, mr, br, rfl, hm, hb⟩⟩)⟩
end Go.Proofs.YtpmnjjmngogkkaaGreatDoor
end

section
set_option linter.unusedVariables false
set_option linter.unusedSimpArgs false
namespace Go.Proofs.YtpmnjjmngogkkaaGreatDoor
open Go Go.RowKit
/-- A number of few digits. -/
theorem len_small {z : Int} {k : Nat} (h : (Lib.itoa z).length ≤ k) : z.natAbs < 10 ^ k := by
  have h1 := Lib.lt_pow_nDigits z.natAbs
  have h2 : Lib.nDigits z.natAbs ≤ k := by
    have := congrArg List.length (itoa_rev z)
    rw [List.length_reverse, List.length_append, low_length] at this
    omega
  exact Nat.lt_of_lt_of_le h1 (Nat.pow_le_pow_right (by omega) h2)
theorem big_ge {k j : Nat} (hk : k ≤ 9 * j) (hj : j ≤ 3344) : 10 ^ k ≤ Big :=
  Nat.le_trans (Nat.pow_le_pow_right (by omega) hk) (Nat.le_trans (Nat.le_of_eq (pow_nine j).symm) (Nat.le_trans (pow_mono_b hj) big_low))
theorem fits_small {z : Int} {k j : Nat} (h : (Lib.itoa z).length ≤ k) (hk : k ≤ 9 * j) (hj : j ≤ 3344) : z.natAbs < Big := Nat.lt_of_lt_of_le (len_small h) (big_ge hk hj)
end Go.Proofs.YtpmnjjmngogkkaaGreatDoor
end

section
set_option linter.unusedVariables false
set_option linter.unusedSimpArgs false
namespace Go.Proofs.YtpmnjjmngogkkaaGreatDoor
open Go Go.RowKit
section
variable {S : Nat → Prop} {w : World} {gl gr m cap : Nat} {ts : List Tri} {l : List Rat}
theorem oneRow_c {gx : Nat} (hx : Blk w gx 93 [.slice (some ⟨gl, 0, none⟩) 1 1]) (hl : Blk w gl 95 [.slice (some ⟨gr, 0, none⟩) m cap]) :
    Gives Tryz.prog 162 [.slice (some ⟨gr, 0, none⟩) m cap, .pointer (some ⟨gx, 0, none⟩)] w fun v' w' => v' = .bool (tst ((m : Int) ≠ m)) ∧ w' = w := by
  refine gives_of Tryz.func162 rfl rfl rfl ?_
  repeat (first | refine r_load_blk rfl hx rfl ?_ | refine r_load_blk rfl hl rfl ?_ | refine wp_seq_region ?_ | refine wp_region ?_ | refine r_move (by conv => (lhs; whnf)) ?_ | refine r_assign (by conv => (lhs; whnf)) ?_ | refine r_nil ?_ | refine q_then ?_ | refine wp_ret ?_ | refine r_len_sl rfl ?_ | refine r_neq rfl rfl ?_ | refine r_index_sl rfl rfl (by omega) (by omega) ?_)
  exact end_tmp rfl (by conv => (lhs; whnf)) ⟨rfl, rfl⟩
theorem indexRow_c {gx : Nat} (hx : Blk w gx 93 [.slice (some ⟨gl, 0, none⟩) 1 1]) (hl : Blk w gl 95 [.slice (some ⟨gr, 0, none⟩) m cap]) :
    Gives Tryz.prog 201 [.slice (some ⟨gl, 0, none⟩) 1 1, .func (.func 162) #[] #[.pointer (some ⟨gx, 0, none⟩)]] w fun v' w' => v' = .int .i64 (-1) ∧ w' = w := by
  refine gives_of Tryz.func201 rfl rfl rfl ?_
  repeat (first | refine wp_seq_region ?_ | refine wp_seq_seq ?_ | refine wp_region ?_ | refine r_move (by conv => (lhs; whnf)) ?_ | refine r_assign (by conv => (lhs; whnf)) ?_ | refine r_nil ?_ | refine q_then ?_ | refine r_len_sl rfl ?_)
  try refine wp_seq_block ?_
  refine unr_for 3 ?_
  repeat (first | refine unr_step ?_ | refine r_load_blk rfl hl rfl ?_ | refine wp_seq_region ?_ | refine wp_seq_bseq ?_ | refine wp_region ?_ | refine r_move (by conv => (lhs; whnf)) ?_ | refine r_assign (by conv => (lhs; whnf)) ?_ | refine r_nil ?_ | refine q_then ?_ | refine wp_block_seq ?_ | refine wp_skip ?_ | refine r_lss rfl rfl ?_ | refine r_index_sl rfl rfl (by omega) (by omega) ?_ | refine wp_if_yes rfl (by omega) ?_)
  refine r_callv (first := []) (cap := [.pointer (some ⟨gx, 0, none⟩)]) rfl (oneRow_c hx hl) rfl ?_
  rintro v1 w1 ⟨rfl, rfl⟩
  repeat (first | refine unr_step ?_ | refine wp_seq_region ?_ | refine wp_region ?_ | refine r_move (by conv => (lhs; whnf)) ?_ | refine r_assign (by conv => (lhs; whnf)) ?_ | refine r_nil ?_ | refine q_then ?_ | refine wp_ret ?_ | refine wp_skip ?_ | refine wp_exit ?_ | refine r_lss rfl rfl ?_ | refine r_addI rfl rfl (by omega) (by omega) ?_ | refine wp_if_no rfl (by omega) ?_ | refine wp_cond_no rfl (by omega) ?_)
  exact end_tmp rfl (by conv => (lhs; whnf)) ⟨rfl, rfl⟩
theorem containsRow_c {gx : Nat} (hx : Blk w gx 93 [.slice (some ⟨gl, 0, none⟩) 1 1]) (hl : Blk w gl 95 [.slice (some ⟨gr, 0, none⟩) m cap]) :
    Gives Tryz.prog 161 [.slice (some ⟨gl, 0, none⟩) 1 1, .func (.func 162) #[] #[.pointer (some ⟨gx, 0, none⟩)]] w fun v' w' => v' = .bool false ∧ w' = w := by
  refine gives_of Tryz.func161 rfl rfl rfl ?_
  repeat (first | refine wp_seq_region ?_ | refine wp_region ?_ | refine r_move (by conv => (lhs; whnf)) ?_ | refine r_assign (by conv => (lhs; whnf)) ?_ | refine r_nil ?_)
  refine r_call (indexRow_c hx hl) rfl ?_
  rintro v2 w2 ⟨rfl, rfl⟩
  repeat (first | refine r_assign (by conv => (lhs; whnf)) ?_ | refine r_nil ?_ | refine q_then ?_ | refine wp_ret ?_ | refine r_geq rfl rfl ?_)
  exact end_tmp rfl (by conv => (lhs; whnf)) ⟨by show Value.bool (tst _) = _; rw [tst_false (by omega)], rfl⟩
/-- Fractions of few digits are small. -/
theorem rl_short {q : Rat} (h : Short q) : rl q 8 := by
  have h1 : ∀ a, Lib.nDigits a ≤ 60 → dl a ≤ 8 := fun a ha => dl_le (Nat.lt_of_lt_of_le (Lib.lt_pow_nDigits a) (Nat.le_trans (Nat.pow_le_pow_right (by omega) ha) (by decide)))
  exact ⟨h1 _ h.1, h1 _ h.2⟩
theorem checkRows_c (hS : Up S w) (ht : Tab w) (hl : Blk w gl 95 [.slice (some ⟨gr, 0, none⟩) m cap]) (hb : Blk w gr 34 (flat ts)) (hr : Rats S w (ts.take m) l) (hm : m ≤ ts.length) (hmm : m ≤ 40) (hs : ∀ q ∈ l, Short q) :
    Gives Tryz.prog 122 [.slice (some ⟨gl, 0, none⟩) 1 1] w fun v' w' => v' = .int .i64 0 ∧ Ext w w' := by
  refine gives_of Tryz.func122 rfl rfl rfl ?_
  repeat (first | refine wp_seq_region ?_ | refine wp_region ?_)
  refine r_box1 (v := .slice (some ⟨gl, 0, none⟩) 1 1) rfl rfl ?_
  intro w1 gx k1 hx hgs
  have hl1 := hl.to k1
  repeat (first | refine r_load_blk rfl hx rfl ?_ | refine r_load_blk rfl hl1 rfl ?_ | refine wp_seq_region ?_ | refine wp_seq_seq ?_ | refine wp_region ?_ | refine r_move (by conv => (lhs; whnf)) ?_ | refine r_assign (by conv => (lhs; whnf)) ?_ | refine r_nil ?_ | refine q_then ?_ | refine wp_skip ?_ | refine r_len_sl rfl ?_ | refine r_guard_run rfl rfl ?_ | refine r_pick_true rfl (by conv => (lhs; whnf)) ?_ | refine r_pick_false rfl (by conv => (lhs; whnf)) ?_ | refine r_gtr rfl rfl ?_ | refine r_index_sl rfl rfl (by omega) (by omega) ?_ | refine r_func ?_ | refine wp_cond_no rfl (by omega) ?_ | refine r_guard_yes rfl rfl (by omega) ?_ | refine r_guard_no rfl rfl (by omega) ?_)
  refine r_call (containsRow_c hx hl1) rfl ?_
  rintro v2 w2 ⟨rfl, rfl⟩
  repeat (first | refine r_load_blk rfl hx rfl ?_ | refine wp_seq_region ?_ | refine wp_seq_seq ?_ | refine wp_region ?_ | refine r_move (by conv => (lhs; whnf)) ?_ | refine r_nil ?_ | refine q_then ?_ | refine wp_skip ?_ | refine r_len_sl rfl ?_ | refine wp_cond_false rfl ?_)
  try refine wp_seq_block ?_
  refine unr_for 3 ?_
  repeat (first | refine unr_step ?_ | refine r_load_blk rfl hl1 rfl ?_ | refine wp_seq_region ?_ | refine wp_seq_bseq ?_ | refine wp_region ?_ | refine r_move (by conv => (lhs; whnf)) ?_ | refine r_assign (by conv => (lhs; whnf)) ?_ | refine r_nil ?_ | refine q_then ?_ | refine wp_block_seq ?_ | refine wp_skip ?_ | refine r_lss rfl rfl ?_ | refine r_index_sl rfl rfl (by omega) (by omega) ?_ | refine wp_if_yes rfl (by omega) ?_)
  refine r_call (contains_c (first := []) (caps := []) (fun q => ¬ Short q) (hb.to k1) (hr.to k1) hm (by omega) ?_) rfl ?_
  · intro w' v q k hq hql
    exact long_c (hS.to (k1.trans k)) (ht.to (k1.trans k)) hq (by have := rl_short (hs q hql); exact ⟨by omega, by omega⟩)
  rintro v3 w3 ⟨rfl, k3⟩
  repeat (first | refine r_nil ?_ | refine q_then ?_)
  refine wp_cond_no rfl (fun ⟨q, h1, h2⟩ => h2 (hs q h1)) ?_
  repeat (first | refine unr_step ?_ | refine wp_seq_region ?_ | refine wp_region ?_ | refine r_move (by conv => (lhs; whnf)) ?_ | refine r_assign (by conv => (lhs; whnf)) ?_ | refine r_nil ?_ | refine q_then ?_ | refine wp_ret ?_ | refine wp_skip ?_ | refine wp_exit ?_ | refine r_lss rfl rfl ?_ | refine r_addI rfl rfl (by omega) (by omega) ?_ | refine wp_if_no rfl (by omega) ?_)
  exact end_tmp rfl (by conv => (lhs; whnf)) ⟨rfl, k1.trans k3⟩
theorem check_c {gb mb capb : Nat} {tb : List Tri} {lb : List Rat} (hS : Up S w) (ht : Tab w) (hl : Blk w gl 95 [.slice (some ⟨gr, 0, none⟩) m cap]) (hb : Blk w gr 34 (flat ts)) (hr : Rats S w (ts.take m) l) (hm : m ≤ ts.length) (hmm : m ≤ 40) (hs : ∀ q ∈ l, Short q)
    (hbb : Blk w gb 34 (flat tb)) (hrb : Rats S w (tb.take 1) lb) (hmb : 1 ≤ tb.length) (hsb : ∀ q ∈ lb, Short q) :
    Gives Tryz.prog 126 [.slice (some ⟨gl, 0, none⟩) 1 1, .slice (some ⟨gb, 0, none⟩) 1 capb] w fun v' w' => v' = .int .i64 0 ∧ Ext w w' := by
  refine gives_of Tryz.func126 rfl rfl rfl ?_
  repeat (first | refine wp_seq_region ?_ | refine wp_seq_seq ?_ | refine wp_region ?_ | refine r_move (by conv => (lhs; whnf)) ?_ | refine r_assign (by conv => (lhs; whnf)) ?_ | refine r_nil ?_)
  refine r_call (checkRows_c hS ht hl hb hr hm hmm hs) rfl ?_
  rintro v1 w1 ⟨rfl, k1⟩
  repeat (first | refine wp_seq_region ?_ | refine wp_seq_bseq ?_ | refine wp_region ?_ | refine r_move (by conv => (lhs; whnf)) ?_ | refine r_assign (by conv => (lhs; whnf)) ?_ | refine r_nil ?_ | refine q_then ?_ | refine wp_block_seq ?_ | refine wp_skip ?_ | refine r_len_sl rfl ?_ | refine r_guard_skip rfl rfl rfl ?_ | refine r_pick_false rfl (by conv => (lhs; whnf)) ?_ | refine r_neq rfl rfl ?_ | refine wp_cond_false rfl ?_ | refine wp_cond_no rfl (by omega) ?_ | refine r_guard_no rfl rfl (by omega) ?_)
  refine r_call (checkRows_c (hS.to k1) (ht.to k1) (hl.to k1) (hb.to k1) (hr.to k1) hm hmm hs) rfl ?_
  rintro v2 w2 ⟨rfl, k2⟩
  repeat (first | refine r_move (by conv => (lhs; whnf)) ?_ | refine r_guard_run rfl rfl ?_ | refine r_eql rfl rfl ?_ | refine r_guard_no rfl rfl (by omega) ?_)
  refine r_call (contains_c (first := []) (caps := []) (fun q => ¬ Short q) ((hbb.to k1).to k2) ((hrb.to k1).to k2) hmb (by omega) ?_) rfl ?_
  · intro w' v q k hq hql
    exact long2_c (((hS.to k1).to k2).to k) (((ht.to k1).to k2).to k) hq (by have := rl_short (hsb q hql); exact ⟨by omega, by omega⟩)
  rintro v3 w3 ⟨rfl, k3⟩
  repeat (first | refine r_assign (by conv => (lhs; whnf)) ?_ | refine r_nil ?_ | refine q_then ?_ | refine r_pick_false rfl (by conv => (lhs; whnf)) ?_)
  first | refine wp_cond_no rfl (fun ⟨q, h1, h2⟩ => h2 (hsb q h1)) ?_ | refine wp_if_no rfl (fun ⟨q, h1, h2⟩ => h2 (hsb q h1)) ?_
  repeat (first | refine wp_seq_region ?_ | refine wp_region ?_ | refine r_assign (by conv => (lhs; whnf)) ?_ | refine r_nil ?_ | refine q_then ?_ | refine wp_ret ?_ | refine wp_skip ?_)
  exact end_tmp rfl (by conv => (lhs; whnf)) ⟨rfl, (k1.trans k2).trans k3⟩
end
end Go.Proofs.YtpmnjjmngogkkaaGreatDoor
end

section
set_option linter.unusedVariables false
set_option linter.unusedSimpArgs false
namespace Go.Proofs.YtpmnjjmngogkkaaGreatDoor
open Go Go.RowKit
theorem agree_base {W : List (Nat × Nat)} {ρ ρ' : Fr} {d : Nat} {v : Value} (hd : inW W d = true) (h : Agree W ρ ρ') : Agree W (upd ρ d v) ρ' := by
  intro i hi
  rw [h i hi, upd_ne]
  cases hb : Nat.beq i d with
  | false => rfl
  | true => rw [Nat.eq_of_beq_eq_true hb, hd] at hi; cases hi
theorem RatV.wrT {S : Nat → Prop} {w w' : World} {v : Value} {q : Rat} {g : Nat} {T' : TypeId} {ds : List Value} (h : RatV S w v q) (k : Wrt g w w') (hb : Blk w g T' ds) (hT : T' ≠ 127) : RatV S w' v q :=
  let ⟨m, b, h1, h2, h3⟩ := h; ⟨m, b, h1, h2.wrT k hb hT, h3.wrT k hb hT⟩
theorem Rats.wrT {S : Nat → Prop} {w w' : World} {g : Nat} {T' : TypeId} {ds : List Value} (k : Wrt g w w') (hb : Blk w g T' ds) (hT : T' ≠ 127) : ∀ {ts : List Tri} {l : List Rat}, Rats S w ts l → Rats S w' ts l
  | [], [], _ => trivial
  | _ :: _, _ :: _, ⟨h1, h2⟩ => ⟨h1.wrT k hb hT, Rats.wrT k hb hT h2⟩
theorem Rats.set {S : Nat → Prop} {w : World} {t : Tri} {q : Rat} (hq : RatV S w t.val q) : ∀ {ts : List Tri} {l : List Rat} {j : Nat}, Rats S w ts l → Rats S w (ts.set j t) (l.set j q)
  | [], [], _, _ => trivial
  | _ :: _, _ :: _, 0, ⟨_, h2⟩ => ⟨hq, h2⟩
  | _ :: _, _ :: _, j + 1, ⟨h1, h2⟩ => ⟨h1, Rats.set hq h2⟩
theorem RatV.ones {S : Nat → Prop} {w : World} {t : Tri} {q : Rat} (h : RatV S w t.val q) : t.1.oneCell' = true ∧ t.2.1.oneCell' = true ∧ t.2.2.oneCell' = true := by
  obtain ⟨m, b, he, hm, hb⟩ := h
  obtain ⟨x, y, z⟩ := t
  unfold Tri.val at he
  simp only [Value.agg.injEq, List.toArray_eq_iff] at he
  have h1 : [x, y, z] = [.bool (tst (q.num < 0)), m, b] := by simpa using he
  simp only [List.cons.injEq, and_true] at h1
  obtain ⟨rfl, rfl, rfl⟩ := h1
  exact ⟨rfl, hm.one, hb.one⟩
theorem mkRat_le (z : Int) {d : Nat} (hd : 0 < d) : (mkRat z d).num.natAbs ≤ z.natAbs ∧ (mkRat z d).den ≤ d := by
  obtain ⟨h1, h2, _, _⟩ := mkRat_parts z hd
  rw [h1, h2]
  exact ⟨Nat.div_le_self .., Nat.div_le_self ..⟩
theorem rl_mul {a b : Rat} {n m : Nat} (ha : rl a n) (hb : rl b m) : rl (a * b) (n + m) := by
  rw [rat_times]
  obtain ⟨h1, h2⟩ := mkRat_le (a.num * b.num) (Nat.mul_pos a.den_pos b.den_pos)
  have h3 := dl_mul a.num.natAbs b.num.natAbs
  have h4 := dl_mul a.den b.den
  rw [Int.natAbs_mul] at h1
  obtain ⟨a1, a2⟩ := ha
  obtain ⟨b1, b2⟩ := hb
  exact ⟨Nat.le_trans (dl_mono h1) (by omega), Nat.le_trans (dl_mono h2) (by omega)⟩
theorem rl_mono {a : Rat} {n m : Nat} (h : rl a n) (hm : n ≤ m) : rl a m := ⟨Nat.le_trans h.1 hm, Nat.le_trans h.2 hm⟩
def takeL (c : Rat) : List Rat → List Rat → List Rat
  | d :: ds, f :: fs => (d - c * f) :: takeL c ds fs
  | ds, _ => ds
theorem takeL_nil (c : Rat) (ds : List Rat) : takeL c ds [] = ds := by cases ds <;> rfl
theorem takeL_at (c : Rat) : ∀ (ds fs : List Rat) (i : Nat), (takeL c ds (fs.take i))[i]? = ds[i]?
  | [], fs, i => by cases fs <;> simp [takeL]
  | d :: ds, [], i => by simp [takeL]
  | d :: ds, f :: fs, 0 => by simp [takeL]
  | d :: ds, f :: fs, i + 1 => by simp [takeL, takeL_at c ds fs i]
theorem takeL_step (c : Rat) : ∀ (ds fs : List Rat) (i : Nat) {d f : Rat}, ds[i]? = some d → fs[i]? = some f → takeL c ds (fs.take (i + 1)) = (takeL c ds (fs.take i)).set i (d - c * f)
  | [], fs, i, d, f, h, _ => by simp at h
  | d :: ds, [], i, _, _, _, h => by simp at h
  | d :: ds, f :: fs, 0, _, _, h1, h2 => by
    simp at h1 h2
    subst h1 h2
    simp [takeL, takeL_nil]
  | d :: ds, f :: fs, i + 1, _, _, h1, h2 => by
    have := takeL_step c ds fs i (by simpa using h1) (by simpa using h2)
    simp [takeL, this]
theorem takeL_length (c : Rat) : ∀ (ds fs : List Rat), (takeL c ds fs).length = ds.length
  | [], fs => by cases fs <;> rfl
  | d :: ds, [] => rfl
  | d :: ds, f :: fs => by simp [takeL, takeL_length c ds fs]
theorem take_c {S : Nat → Prop} {w : World} {gd nd capd gf nf capf : Nat} {td tf : List Tri} {ld lf : List Rat} {vc : Value} {c : Rat} (hS : Up S w) (hc : RatV S w vc c) (hlc : rl c 100000000000)
    (hd : Blk w gd 34 (flat td)) (hrd : Rats S w td ld) (hld : ∀ q ∈ ld, rl q 100000000000) (hf : Blk w gf 34 (flat tf)) (hrf : Rats S w (tf.take nf) lf) (hnf : nf ≤ tf.length) (hlf : ∀ q ∈ lf, rl q 100000000000)
    (hne : gd ≠ gf) (hnd : nd = td.length) (hn : nf ≤ nd) (hnn : nd ≤ 1000000000) :
    Gives Tryz.prog 165 [.slice (some ⟨gd, 0, none⟩) nd capd, vc, .slice (some ⟨gf, 0, none⟩) nf capf] w fun v' w' => Wrt gd w w' ∧ ∃ td', Blk w' gd 34 (flat td') ∧ Rats S w' td' (takeL c ld lf) := by
  have hlen : lf.length = nf := by rw [← hrf.length, List.length_take]; omega
  have hlend : ld.length = nd := by rw [← hrd.length, hnd]
  obtain ⟨mc, bc, rfl, hmc, hbc⟩ := hc
  have hc : RatV S w (.agg #[.bool (tst (c.num < 0)), mc, bc]) c := ⟨mc, bc, rfl, hmc, hbc⟩
  refine gives_of Tryz.func165 rfl rfl rfl ?_
  repeat (first | refine wp_seq_region ?_ | refine wp_region ?_)
  refine r_box (cs := [.bool (tst (c.num < 0)), mc, bc]) (by conv => (lhs; whnf)) rfl ?_
  intro w1 gc k1 hgc hgsc
  have hdl := hd.lt
  have hfl := hf.lt
  repeat (first | refine wp_seq_region ?_ | refine wp_region ?_ | refine r_move (by conv => (lhs; whnf)) ?_ | refine r_nil ?_ | refine q_then ?_ | refine r_len_sl rfl ?_)
  try refine wp_seq_block ?_
  refine wp_for [(6, 7), (10, 32)] (fun k ρ w' => ∃ (i : Nat) (ti : List Tri), ρ 10 = .int .i64 (i : Int) ∧ i + k = nf ∧ Wrt gd w1 w' ∧ Blk w' gd 34 (flat ti) ∧ Rats S w' ti (takeL c ld (lf.take i))) nf ?_ ?_
  · exact ⟨0, td, rfl, by omega, .refl, hd.to k1, by rw [List.take_zero, takeL_nil]; exact hrd.to k1⟩
  rintro k u w2 ⟨i, ti, h10, hik, k2, hdi, hri⟩
  refine wp_learn 10 h10 ?_
  have hS2 : Up S w2 := fun j hj => hS j (by have := k1.size; have := k2.size; omega)
  have hgc2 := hgc.wr k2 (by omega)
  have hf2 := (hf.to k1).wr k2 (fun e => hne e.symm)
  have hrf2 := (hrf.to k1).wrT k2 (hd.to k1) (by decide)
  have hc2 := (hc.to k1).wrT k2 (hd.to k1) (by decide)
  have hti : ti.length = nd := by rw [hri.length, takeL_length, hlend]
  repeat (first | refine wp_seq_region ?_ | refine wp_region ?_ | refine r_nil ?_ | refine q_then ?_ | refine r_lss rfl rfl ?_)
  try refine wp_seq_cond ?_
  refine wp_cond_dec rfl ?_ ?_ <;> intro hlt
  · obtain ⟨x, hx⟩ : ∃ q, lf[i]? = some q := ⟨lf[i]'(by omega), List.getElem?_eq_getElem (by omega)⟩
    obtain ⟨d, hdd⟩ : ∃ q, ld[i]? = some q := ⟨ld[i]'(by omega), List.getElem?_eq_getElem (by omega)⟩
    obtain ⟨tx, htx, hxv⟩ := hrf2.get hx
    have htx' : tf[i]? = some tx := by rw [List.getElem?_take] at htx; split at htx; exact htx; cases htx
    obtain ⟨tdd, htd, hdv⟩ := hri.get ((takeL_at c ld lf i).trans hdd)
    have hlx := hlf x (List.mem_of_getElem? hx)
    have hldd := hld d (List.mem_of_getElem? hdd)
    repeat (first | refine wp_seq_region ?_ | refine wp_seq_bseq ?_ | refine wp_region ?_ | refine r_move (by conv => (lhs; whnf)) ?_ | refine wp_block_seq ?_ | refine wp_skip ?_ | refine r_index_sl rfl rfl (by omega) (by omega) ?_)
    refine r_load_tri i rfl (by omega) hf2 htx' ?_
    refine r_alloc (cs := [.bool false, .slice none 0 0, .slice none 0 0]) rfl ?_
    intro w3 gx k3 hgx hgsx
    repeat (first | refine r_assign (by conv => (lhs; whnf)) ?_)
    have hxo := hxv.ones
    refine r_store3 rfl rfl hgx rfl hxo.1 hxo.2.1 hxo.2.2 ?_
    intro w4 k4 hgx4
    have k34 : Ext w2 w4 := k3.past k4 hgsx
    have hgx4' : Blk w4 gx 34 (flat [tx]) := hgx4
    have hgd4 := hdi.to k34
    have hgc4 := hgc2.to k34
    have hx4 := hxv.to k34
    have hd4 := hdv.to k34
    have hc4 := hc2.to k34
    have hS4 := hS2.to k34
    repeat (first | refine r_load_all rfl hgx4 rfl ?_ | refine r_iface rfl ?_ | refine wp_seq_region ?_ | refine wp_region ?_ | refine r_nil ?_)
    refine r_invoke meth_sign rfl (rsign_c (v := tx.val) hx4) rfl ?_
    rintro v5 w5 ⟨rfl, k5⟩
    replace hgx4 := hgx4.to k5
    replace hgd4 := hgd4.to k5
    replace hgc4 := hgc4.to k5
    replace hx4 := hx4.to k5
    replace hd4 := hd4.to k5
    replace hc4 := hc4.to k5
    replace hS4 := hS4.to k5
    have k25 := k34.trans k5
    repeat (first | refine r_nil ?_ | refine q_then ?_ | refine r_neq rfl rfl ?_)
    first | refine wp_seq_block ?_ | refine wp_thenB ?_ | refine wp_thenBB ?_ | skip
    refine wp_mid [(19, 31)] (fun ρ w' => Wrt gd w1 w' ∧ ∃ ti, Blk w' gd 34 (flat ti) ∧ Rats S w' ti (takeL c ld (lf.take (i + 1)))) ?_ ?_
    · try refine wp_seq_cond ?_
      refine wp_cond_dec rfl ?_ ?_ <;> intro hz
      · refine wp_drawn 13 (by kernel_rfl) (by kernel_rfl) ?_
        apply ob_step
        · intro x w1 k1 hd
          refine r_move (by conv => (lhs; whnf)) ?_
          refine r_nil ?_
          exact ob_eq
        apply ob_step
        · intro x w1 k1 hd
          refine r_move (by conv => (lhs; whnf)) ?_
          refine r_nil ?_
          exact ob_eq
        apply ob_step
        · intro x w1 k1 hd
          refine r_move (by conv => (lhs; whnf)) ?_
          refine r_nil ?_
          exact ob_eq
        apply ob_step
        · intro x w1 k1 hd
          refine r_move (by conv => (lhs; whnf)) ?_
          refine r_nil ?_
          exact ob_eq
        apply ob_step
        · intro x w1 k1 hd
          refine r_index_sl rfl rfl (by omega) (by omega) ?_
          refine r_nil ?_
          exact ob_eq
        apply ob_step
        · intro x w1 k1 hd
          refine r_load_tri i rfl (by omega) (hgd4.to k1) htd ?_
          refine r_nil ?_
          exact ob_eq
        apply ob_step
        · intro x w1 k1 hd
          refine r_iface (by conv => (lhs; whnf)) ?_
          refine r_nil ?_
          exact ob_eq
        apply ob_step
        · intro x w1 k1 hd
          refine r_load_all rfl (hgc4.to k1) rfl ?_
          refine r_nil ?_
          exact ob_eq
        apply ob_step
        · intro x w1 k1 hd
          refine r_iface (by conv => (lhs; whnf)) ?_
          refine r_nil ?_
          exact ob_eq
        apply ob_step
        · intro x w1 k1 hd
          refine r_load_all rfl (hgx4.to k1) rfl ?_
          refine r_nil ?_
          exact ob_eq
        refine ob_step (e := ratE S (c * x)) ?_ ?_
        · intro x w1 k1 hd
          refine r_invoke meth_times rfl (rtimes_c (vb := tx.val) (hS4.to k1) (hc4.to k1) (hx4.to k1) (rl_mono hlc (by omega)) (rl_mono hlx (by omega))) rfl ?_
          rintro v2 w2 ⟨k2, h2⟩
          exact r_nil (ob_of k2 h2)
        refine ob_step (e := ratE S (d - c * x)) ?_ ?_
        · intro x w1 k1 hd
          refine r_invoke meth_minus rfl (rminus_c (va := tdd.val) (hS4.to k1) (hd4.to k1) hd.1 (rl_mono hldd (by omega)) (rl_mono (rl_mul hlc hlx) (by omega))) rfl ?_
          rintro v2 w2 ⟨k2, h2⟩
          exact r_nil (ob_of k2 h2)
        apply ob_step
        · intro x w1 k1 hd
          refine r_index_sl rfl rfl (by omega) (by omega) ?_
          refine r_nil ?_
          exact ob_eq
        refine ob_nil (ob_end ?_)
        intro x5 w6 k6 hall
        obtain ⟨t6, ht6, h6, o1, o2, o3⟩ := RatV.tri (show RatV S w6 (x5 11) (d - c * x) from hall.2.1)
        refine r_store_tri i rfl (by omega) ht6 (hgd4.to k6) (by omega) o1 o2 o3 ?_
        intro w7 k7 hgd7
        repeat (first | refine r_nil ?_ | refine q_then ?_)
        refine ⟨by (repeat (first | refine agree_upd rfl ?_ | exact agree_over | refine agree_sub rfl ?_ | exact agree_refl)), ?_, _, hgd7, ?_⟩
        · exact (k2.trans (Keeps.of (k25.trans k6))).trans k7
        · rw [takeL_step c ld lf i hdd hx]
          exact Rats.set (h6.wrT k7 (hgd4.to k6) (by decide)) (((hri.to k25).to k6).wrT k7 (hgd4.to k6) (by decide))
      · repeat (first | refine q_then ?_ | refine wp_skip ?_)
        have hx0 : x = 0 := by
          have : x.num = 0 := Int.sign_eq_zero_iff_zero.1 (Classical.not_not.1 hz)
          exact Rat.num_eq_zero.1 this
        refine ⟨by (repeat (first | refine agree_upd rfl ?_ | exact agree_over | refine agree_sub rfl ?_ | exact agree_refl)), k2.trans (Keeps.of k25), ti, hgd4, ?_⟩
        rw [takeL_step c ld lf i hdd hx, hx0, Rat.mul_zero, show d - 0 = d by grind]
        have e : (takeL c ld (lf.take i)).set i d = takeL c ld (lf.take i) := by
          have h1 := (takeL_at c ld lf i).trans hdd
          refine List.ext_getElem? fun j => ?_
          rw [List.getElem?_set]
          split
          · rename_i e; subst e
            split
            · rw [h1]
            · rename_i h; rw [List.getElem?_eq_none (by omega)]
          · rfl
        rw [e]
        exact hri.to k25
    rintro u2 w6 ⟨k6, t6, hgd6, hr6⟩
    repeat (first | refine wp_region ?_ | refine r_move (by conv => (lhs; whnf)) ?_ | refine r_nil ?_ | refine q_then ?_ | refine r_addI rfl rfl (by omega) (by omega) ?_)
    exact ⟨by (repeat (first | refine agree_upd rfl ?_ | exact agree_over | refine agree_sub rfl ?_ | exact agree_refl)), k - 1, by omega, i + 1, t6, congrArg (Value.int .i64) (by omega), by omega, k6, hgd6, hr6⟩
  · repeat (first | refine wp_exit ?_ | refine q_then_exit ?_ | refine q_block_hit rfl ?_)
    refine ⟨[], rfl, ?_, ti, hdi, ?_⟩
    · exact (Keeps.of k1).trans k2
    · rwa [List.take_of_length_le (by omega)] at hri
end Go.Proofs.YtpmnjjmngogkkaaGreatDoor
end

section
set_option linter.unusedVariables false
set_option linter.unusedSimpArgs false
namespace Go.Proofs.YtpmnjjmngogkkaaGreatDoor
open Go Go.RowKit
set_option maxHeartbeats 1000000 in
theorem zdiv_c {S : Nat → Prop} {w : World} {va vb : Value} {a b : Int} (hS : Up S w) (ha : ZV S w va a) (hb : ZV S w vb b) (hla : zl a ≤ 15999999998000) (hlb : zl b ≤ 15999999998000) (hb0 : b ≠ 0) :
    Gives Tryz.prog 37 [va, vb] w fun v' w' => ∃ vq vr, v' = .tuple #[vq, vr] ∧ Ext w w' ∧ ZV S w' vq (a / b) ∧ ZV S w' vr (a % b) := by
  obtain ⟨hq1, hq2, hq3⟩ := edm_abs (a := a) hb0
  unfold zl at hla hlb
  have ha0 := ha
  have hb0 := hb
  obtain ⟨ma, rfl, hma⟩ := ha
  obtain ⟨mb, rfl, hmb⟩ := hb
  refine gives_of Tryz.func37 rfl rfl rfl ?_
  repeat (first | refine wp_seq_region ?_ | refine wp_region ?_)
  refine r_box (cs := [.bool (tst (a < 0)), ma]) (by conv => (lhs; whnf)) rfl ?_
  intro w1 ga k1 hga hgsa
  skip
  refine r_box (cs := [.bool (tst (b < 0)), mb]) (by conv => (lhs; whnf)) rfl ?_
  intro w2 gb k2 hgb hgsb
  replace hga := hga.to k2
  have k := k1.trans k2
  clear k1 k2
  skip
  have hsz := k.size
  refine r_alloc (cs := [.bool false, .slice none 0 0]) rfl ?_
  intro w3 g k3 hg hgs
  replace hga := hga.to k3
  replace hgb := hgb.to k3
  replace k := k.trans k3
  clear k3
  skip
  have hsz2 := k.size
  refine r_alloc (cs := [.bool false, .slice none 0 0]) rfl ?_
  intro w32 g2 k3 hg2 hgs2
  replace hga := hga.to k3
  replace hgb := hgb.to k3
  have hgl := hg.lt
  replace hg := hg.to k3
  replace k := k.trans k3
  clear k3
  replace ha0 := ha0.to k
  replace hb0 := hb0.to k
  replace hma := hma.to k
  replace hmb := hmb.to k
  replace hS := hS.to k
  repeat (first | refine wp_seq_region ?_ | refine wp_region ?_ | refine r_nil ?_ | refine r_field rfl ?_)
  repeat (first | refine r_load_blk rfl hga rfl ?_ | refine r_load_blk rfl hgb rfl ?_ | refine r_field rfl ?_)
  refine r_call (divN_c hS hma hmb (by omega) (by omega) (by omega)) rfl ?_
  rintro v5 w5 ⟨vq, vr, rfl, k5, hvq, hvr⟩
  replace hga := hga.to k5
  replace hgb := hgb.to k5
  replace hg := hg.to k5
  replace hg2 := hg2.to k5
  replace k := k.trans k5
  replace hmb := hmb.to k5
  replace hS := hS.to k5
  have hlq : dl (a.natAbs / b.natAbs) ≤ 15999999998000 := Nat.le_trans (dl_mono (Nat.div_le_self ..)) hla
  have hlr : a.natAbs % b.natAbs < b.natAbs := Nat.mod_lt _ (by omega)
  have hlr' := @dl_eq_zero (a.natAbs % b.natAbs)
  clear k5
  repeat (first | refine r_load_blk rfl hga rfl ?_ | refine wp_seq_region ?_ | refine wp_seq_seq ?_ | refine wp_region ?_ | refine r_move (by conv => (lhs; whnf)) ?_ | refine r_assign (by conv => (lhs; whnf)) ?_ | refine r_nil ?_ | refine r_extract rfl rfl ?_ | refine r_notB rfl ?_ | refine r_field rfl ?_)
  refine r_mid [(19, 23)] (fun ρ w' => ρ 23 = .bool (tst (¬ (a < 0 ∧ 0 < a.natAbs % b.natAbs))) ∧ w' = w5) ?_ ?_
  · refine r_guard_split rfl rfl ?_ ?_ <;> intro hneg
    · repeat (first | refine r_nil ?_ | refine q_then ?_ | refine r_guard_skip rfl rfl rfl ?_ | refine r_pick_true rfl (by conv => (lhs; whnf)) ?_)
      exact ⟨by (repeat (first | refine agree_upd rfl ?_ | exact agree_over | refine agree_sub rfl ?_ | exact agree_refl | refine agree_base rfl ?_ | refine agree_base' rfl ?_)), by rw [tst_true (show ¬ (a < 0 ∧ 0 < a.natAbs % b.natAbs) from fun h => hneg h.1)]; rfl, rfl⟩
    · repeat (first | refine r_move (by conv => (lhs; whnf)) ?_ | refine r_nil ?_ | refine q_then ?_ | refine r_len (by conv => (lhs; whnf)) (by assumption) ?_ | refine r_guard_run rfl rfl ?_ | refine r_pick_false rfl (by conv => (lhs; whnf)) ?_ | refine r_eql rfl rfl ?_)
      refine ⟨by (repeat (first | refine agree_upd rfl ?_ | exact agree_over | refine agree_sub rfl ?_ | exact agree_refl | refine agree_base rfl ?_ | refine agree_base' rfl ?_)), congrArg Value.bool (tst_congr ?_), rfl⟩
      unfold dl at hlr'
      omega
  rintro u w6 ⟨h23, rfl⟩
  refine wp_learn 23 h23 ?_
  clear h23
  skip
  try refine wp_seq_cond ?_
  refine wp_cond_dec rfl ?_ ?_ <;> intro hr
  · have hqa : qAbs a b = a.natAbs / b.natAbs := by unfold qAbs; rw [if_neg hr]
    have hra : rAbs a b = a.natAbs % b.natAbs := by unfold rAbs; rw [if_neg hr]
    repeat (first | refine r_load_blk rfl hga rfl ?_ | refine r_load_blk rfl hgb rfl ?_ | refine wp_seq_region ?_ | refine wp_region ?_ | refine r_move (by conv => (lhs; whnf)) ?_ | refine r_neqB rfl rfl ?_ | refine r_field rfl ?_)
    refine r_call (zInt_c (a / b) hvq (by rw [hq1, hqa]) (by rw [hq2, hqa])) rfl ?_
    rintro v8 w8 ⟨k8, m8, rfl, h8⟩
    repeat (first | refine r_move (by conv => (lhs; whnf)) ?_)
    refine r_call (zInt0_c (hvr.to k8)) rfl ?_
    rintro v9 w9 ⟨k9, m9, rfl, h9⟩
    skip
    have k89 := k8.trans k9
    refine r_store2 rfl rfl (hg.to k89) rfl h8.one ?_
    intro w10 k10 hg10
    refine r_store2 rfl rfl ((hg2.to k89).wr k10 (by omega)) rfl h9.one ?_
    intro w11 k11 hg11
    repeat (first | refine r_nil ?_ | refine q_then ?_ | refine wp_ret ?_ | refine q_then_ret ?_)
    refine end2 rfl (resV_agg (by conv => (lhs; whnf)) (hg10.wr k11 (by omega)) rfl) (resV_agg (by conv => (lhs; whnf)) hg11 rfl) ⟨_, _, rfl, ((k.trans k89).past k10 (by omega)).past k11 (by omega), ?_, ?_⟩
    · exact ⟨m8, rfl, ((h8.to k9).wrT k10 (hg.to k89) (by decide)).wrT k11 ((hg2.to k89).wr k10 (by omega)) (by decide)⟩
    · rw [hq3, hra]
      exact ⟨m9, rfl, (h9.wrT k10 (hg.to k89) (by decide)).wrT k11 ((hg2.to k89).wr k10 (by omega)) (by decide)⟩
  · have hr' : a < 0 ∧ 0 < a.natAbs % b.natAbs := Classical.not_not.1 hr
    have hqa : qAbs a b = a.natAbs / b.natAbs + 1 := by unfold qAbs; rw [if_pos hr']
    have hra : rAbs a b = b.natAbs - a.natAbs % b.natAbs := by unfold rAbs; rw [if_pos hr']
    repeat (first | refine wp_seq_region ?_ | refine wp_skip ?_)
    refine wp_drawn 14 (by kernel_rfl) (by kernel_rfl) ?_
    apply ob_step
    · intro x w1 k1 hd
      refine r_field rfl ?_
      refine r_nil ?_
      exact ob_eq
    apply ob_step
    · intro x w1 k1 hd
      refine r_load_blk rfl (hga.to k1) rfl ?_
      refine r_nil ?_
      exact ob_eq
    apply ob_step
    · intro x w1 k1 hd
      refine r_field rfl ?_
      refine r_nil ?_
      exact ob_eq
    apply ob_step
    · intro x w1 k1 hd
      refine r_load_blk rfl (hgb.to k1) rfl ?_
      refine r_nil ?_
      exact ob_eq
    apply ob_step
    · intro x w1 k1 hd
      refine r_neqB rfl rfl ?_
      refine r_nil ?_
      exact ob_eq
    apply ob_step
    · intro x w1 k1 hd
      refine r_move (by conv => (lhs; whnf)) ?_
      refine r_nil ?_
      exact ob_eq
    refine ob_step (e := nE S 1) ?_ ?_
    · intro x w1 k1 hd
      refine r_lit1 (by conv => (lhs; whnf)) rfl ?_
      intro w2 g2 k2 hb2 hg2'
      refine r_nil (ob_of k2 ?_)
      exact Row.of_blk (s := 1) (n := 1) (cap := 1) hb2 ((hS.to k1) g2 hg2') (Nat.le_refl _) (by unfold maxLen; omega) rfl
    refine ob_step (e := nE S (a.natAbs / b.natAbs + 1)) ?_ ?_
    · intro x w1 k1 hd
      refine r_call (addN_c (hS.to k1) (hvq.to k1) hd.1 (by omega) (Nat.le_trans (dl_le (k := 1) (by decide)) (by decide))) rfl ?_
      rintro v2 w2 ⟨k2, h2⟩
      exact r_nil (ob_of k2 h2)
    refine ob_step (e := zE S (a / b)) ?_ ?_
    · intro x w1 k1 hd
      refine r_call (zInt_c (a / b) hd.1 (by rw [hq1, hqa]) (by rw [hq2, hqa])) rfl ?_
      rintro v2 w2 ⟨k2, h2⟩
      exact r_nil (ob_of k2 h2)
    apply ob_step
    · intro x w1 k1 hd
      refine r_field rfl ?_
      refine r_nil ?_
      exact ob_eq
    apply ob_step
    · intro x w1 k1 hd
      refine r_load_blk rfl (hgb.to k1) rfl ?_
      refine r_nil ?_
      exact ob_eq
    apply ob_step
    · intro x w1 k1 hd
      refine r_move (by conv => (lhs; whnf)) ?_
      refine r_nil ?_
      exact ob_eq
    refine ob_step (e := nE S (b.natAbs - a.natAbs % b.natAbs)) ?_ ?_
    · intro x w1 k1 hd
      refine r_call (subN_c (hS.to k1) (hmb.to k1) (hvr.to k1) (by omega) (by omega)) rfl ?_
      rintro v2 w2 ⟨k2, h2⟩
      exact r_nil (ob_of k2 h2)
    refine ob_step (e := zE S ((b.natAbs - a.natAbs % b.natAbs : Nat) : Int)) ?_ ?_
    · intro x w1 k1 hd
      refine r_call (zInt0_c hd.1) rfl ?_
      rintro v2 w2 ⟨k2, h2⟩
      exact r_nil (ob_of k2 h2)
    refine ob_nil (ob_end ?_)
    intro x w8 k8 hall
    obtain ⟨m9, hx9, h9⟩ : ZV S w8 (x 13) ((b.natAbs - a.natAbs % b.natAbs : Nat) : Int) := hall.1
    obtain ⟨m8, hx8, h8⟩ : ZV S w8 (x 8) (a / b) := hall.2.2.2.2.2.1
    refine r_store2 rfl hx8 (hg.to k8) rfl h8.one ?_
    intro w10 k10 hg10
    refine r_store2 rfl hx9 ((hg2.to k8).wr k10 (by omega)) rfl h9.one ?_
    intro w11 k11 hg11
    repeat (first | refine r_nil ?_ | refine q_then ?_ | refine wp_ret ?_)
    refine end2 rfl (resV_agg (by conv => (lhs; whnf)) (hg10.wr k11 (by omega)) rfl) (resV_agg (by conv => (lhs; whnf)) hg11 rfl) ⟨_, _, rfl, ((k.trans k8).past k10 (by omega)).past k11 (by omega), ?_, ?_⟩
    · exact ⟨m8, rfl, (h8.wrT k10 (hg.to k8) (by decide)).wrT k11 ((hg2.to k8).wr k10 (by omega)) (by decide)⟩
    · rw [hq3, hra]
      exact ⟨m9, rfl, (h9.wrT k10 (hg.to k8) (by decide)).wrT k11 ((hg2.to k8).wr k10 (by omega)) (by decide)⟩
end Go.Proofs.YtpmnjjmngogkkaaGreatDoor
end

section
namespace Go.Proofs
open Go.Shelf
def Tryz.laysC174_ren : Go.Shelf.Ren := ⟨fun | 174 => 118 | 247 => 158 | 245 => 159 | 287 => 196 | 279 => 197 | 280 => 198 | 281 => 199 | 282 => 200 | 321 => 216 | 322 => 217 | 316 => 218 | 171 => 138 | 205 => 219 | 243 => 173 | 246 => 203 | 283 => 220 | 284 => 221 | 285 => 222 | 286 => 223 | 129 => 231 | 317 => 230 | 318 => 232 | 319 => 233 | 320 => 234 | 337 => 237 | 338 => 238 | n => n, fun | 9 => 9 | 3 => 3 | 2 => 2 | 75 => 145 | 85 => 146 | 4 => 4 | 167 => 215 | 5 => 5 | 53 => 117 | 175 => 216 | 46 => 70 | 168 => 218 | 37 => 73 | 0 => 0 | 210 => 238 | 21 => 21 | 127 => 200 | 145 => 250 | 143 => 248 | 171 => 240 | 173 => 243 | 212 => 251 | 51 => 127 | 20 => 20 | 213 => 252 | 232 => 261 | 233 => 262 | 80 => 36 | n => n, fun | 15 => 1 | 16 => 2 | 17 => 3 | 18 => 6 | 19 => 7 | n => n⟩
theorem Tryz.laysC174 : Go.Proofs.LaysC.n174 Tryz.prog Tryz.laysC174_ren := {
  mixed := by kernel_rfl
  f129 := Tryz.func231.trans (congrArg some (by kernel_rfl))
  f171 := Tryz.func138.trans (congrArg some (by kernel_rfl))
  f174 := Tryz.func118.trans (congrArg some (by kernel_rfl))
  f205 := Tryz.func219.trans (congrArg some (by kernel_rfl))
  f243 := Tryz.func173.trans (congrArg some (by kernel_rfl))
  f245 := Tryz.func159.trans (congrArg some (by kernel_rfl))
  f246 := Tryz.func203.trans (congrArg some (by kernel_rfl))
  f247 := Tryz.func158.trans (congrArg some (by kernel_rfl))
  f279 := Tryz.func197.trans (congrArg some (by kernel_rfl))
  f280 := Tryz.func198.trans (congrArg some (by kernel_rfl))
  f281 := Tryz.func199.trans (congrArg some (by kernel_rfl))
  f282 := Tryz.func200.trans (congrArg some (by kernel_rfl))
  f283 := Tryz.func220.trans (congrArg some (by kernel_rfl))
  f284 := Tryz.func221.trans (congrArg some (by kernel_rfl))
  f285 := Tryz.func222.trans (congrArg some (by kernel_rfl))
  f286 := Tryz.func223.trans (congrArg some (by kernel_rfl))
  f287 := Tryz.func196.trans (congrArg some (by kernel_rfl))
  f316 := Tryz.func218.trans (congrArg some (by kernel_rfl))
  f317 := Tryz.func230.trans (congrArg some (by kernel_rfl))
  f318 := Tryz.func232.trans (congrArg some (by kernel_rfl))
  f319 := Tryz.func233.trans (congrArg some (by kernel_rfl))
  f320 := Tryz.func234.trans (congrArg some (by kernel_rfl))
  f321 := Tryz.func216.trans (congrArg some (by kernel_rfl))
  f322 := Tryz.func217.trans (congrArg some (by kernel_rfl))
  f337 := Tryz.func237.trans (congrArg some (by kernel_rfl))
  f338 := Tryz.func238.trans (congrArg some (by kernel_rfl))
  t0 := Tryz.underlying0
  a0 := Tryz.isAgg0
  z0 := Tryz.sizeOf0
  v0 := Tryz.zeroValue0
  t2 := Tryz.underlying2
  a2 := Tryz.isAgg2
  z2 := Tryz.sizeOf2
  v2 := Tryz.zeroValue2
  t3 := Tryz.underlying3
  a3 := Tryz.isAgg3
  z3 := Tryz.sizeOf3
  v3 := Tryz.zeroValue3
  t4 := Tryz.underlying4
  a4 := Tryz.isAgg4
  z4 := Tryz.sizeOf4
  v4 := Tryz.zeroValue4
  t5 := Tryz.underlying5
  a5 := Tryz.isAgg5
  z5 := Tryz.sizeOf5
  v5 := Tryz.zeroValue5
  t9 := Tryz.underlying9
  a9 := Tryz.isAgg9
  z9 := Tryz.sizeOf9
  v9 := Tryz.zeroValue9
  t20 := Tryz.underlying20
  a20 := Tryz.isAgg20
  z20 := Tryz.sizeOf20
  v20 := Tryz.zeroValue20
  t21 := Tryz.underlying21
  a21 := Tryz.isAgg21
  z21 := Tryz.sizeOf21
  v21 := Tryz.zeroValue21
  t37 := Tryz.underlying73
  a37 := Tryz.isAgg73
  z37 := Tryz.sizeOf73
  v37 := Tryz.zeroValue73
  t46 := Tryz.underlying70
  a46 := Tryz.isAgg70
  z46 := Tryz.sizeOf70
  v46 := Tryz.zeroValue70
  t51 := Tryz.underlying127
  a51 := Tryz.isAgg127
  z51 := Tryz.sizeOf127
  v51 := Tryz.zeroValue127
  t53 := Tryz.underlying117
  a53 := Tryz.isAgg117
  z53 := Tryz.sizeOf117
  v53 := Tryz.zeroValue117
  t75 := Tryz.underlying145
  a75 := Tryz.isAgg145
  z75 := Tryz.sizeOf145
  v75 := Tryz.zeroValue145
  t85 := Tryz.underlying146
  a85 := Tryz.isAgg146
  z85 := Tryz.sizeOf146
  v85 := Tryz.zeroValue146
  t127 := Tryz.underlying200
  a127 := Tryz.isAgg200
  z127 := Tryz.sizeOf200
  v127 := Tryz.zeroValue200
  t143 := Tryz.underlying248
  a143 := Tryz.isAgg248
  z143 := Tryz.sizeOf248
  v143 := Tryz.zeroValue248
  t145 := Tryz.underlying250
  a145 := Tryz.isAgg250
  z145 := Tryz.sizeOf250
  v145 := Tryz.zeroValue250
  t167 := Tryz.underlying215
  a167 := Tryz.isAgg215
  z167 := Tryz.sizeOf215
  v167 := Tryz.zeroValue215
  t168 := Tryz.underlying218
  a168 := Tryz.isAgg218
  z168 := Tryz.sizeOf218
  v168 := Tryz.zeroValue218
  t171 := Tryz.underlying240
  a171 := Tryz.isAgg240
  z171 := Tryz.sizeOf240
  v171 := Tryz.zeroValue240
  t173 := Tryz.underlying243
  a173 := Tryz.isAgg243
  z173 := Tryz.sizeOf243
  v173 := Tryz.zeroValue243
  t175 := Tryz.underlying216
  a175 := Tryz.isAgg216
  z175 := Tryz.sizeOf216
  v175 := Tryz.zeroValue216
  t210 := Tryz.underlying238
  a210 := Tryz.isAgg238
  z210 := Tryz.sizeOf238
  v210 := Tryz.zeroValue238
  t212 := Tryz.underlying251
  a212 := Tryz.isAgg251
  z212 := Tryz.sizeOf251
  v212 := Tryz.zeroValue251
  t213 := Tryz.underlying252
  a213 := Tryz.isAgg252
  z213 := Tryz.sizeOf252
  t232 := Tryz.underlying261
  a232 := Tryz.isAgg261
  z232 := Tryz.sizeOf261
  v232 := Tryz.zeroValue261
  t233 := Tryz.underlying262
  a233 := Tryz.isAgg262
  z233 := Tryz.sizeOf262
  v233 := Tryz.zeroValue262
  g15 := by kernel_rfl
  g16 := by kernel_rfl
  g17 := by kernel_rfl
  g18 := by kernel_rfl
  g19 := by kernel_rfl
  t80 := Tryz.underlying36
  a80 := Tryz.isAgg36
  z80 := Tryz.sizeOf36
  v80 := Tryz.zeroValue36
  i0 := by kernel_rfl
  i2 := by kernel_rfl
  i3 := by kernel_rfl
  i4 := by kernel_rfl
  i5 := by kernel_rfl
  i9 := by kernel_rfl
  i20 := by kernel_rfl
  i21 := by kernel_rfl
  i37 := by kernel_rfl
  i46 := by kernel_rfl
  i51 := by kernel_rfl
  i53 := by kernel_rfl
  i75 := by kernel_rfl
  i80 := by kernel_rfl
  i85 := by kernel_rfl
  i127 := by kernel_rfl
  i143 := by kernel_rfl
  i145 := by kernel_rfl
  i167 := by kernel_rfl
  i168 := by kernel_rfl
  i171 := by kernel_rfl
  i173 := by kernel_rfl
  i175 := by kernel_rfl
  i210 := by kernel_rfl
  i212 := by kernel_rfl
  i232 := by kernel_rfl
  i233 := by kernel_rfl
  m15 := by kernel_rfl
  m16 := by kernel_rfl
  m17 := by kernel_rfl
  m18 := by kernel_rfl
  m19 := by kernel_rfl
  c0 := by kernel_rfl
  c2 := by kernel_rfl
  c3 := by kernel_rfl
  c4 := by kernel_rfl
  c5 := by kernel_rfl
  c9 := by kernel_rfl
  c20 := by kernel_rfl
  c21 := by kernel_rfl
  c37 := by kernel_rfl
  c46 := by kernel_rfl
  c51 := by kernel_rfl
  c53 := by kernel_rfl
  c75 := by kernel_rfl
  c80 := by kernel_rfl
  c85 := by kernel_rfl
  c127 := by kernel_rfl
  c143 := by kernel_rfl
  c145 := by kernel_rfl
  c167 := by kernel_rfl
  c168 := by kernel_rfl
  c171 := by kernel_rfl
  c173 := by kernel_rfl
  c175 := by kernel_rfl
  c210 := by kernel_rfl
  c212 := by kernel_rfl
  c213 := by kernel_rfl
  c232 := by kernel_rfl
  c233 := by kernel_rfl }
open Go.RowKit in
/-- strconv.ParseInt(s, 10, 64), AT EVERY STRING THAT SPELLS AN int64 ('Lib.parseIntB 64 s.data.toList = .ok v'): v, AND NO ERROR. (LAID: no walk: one application.) -/
theorem Tryz.strconv_ParseInt_10_at64_ok (s : ByteArray) (hmax : s.size ≤ 9223372036854775806) (v : Int) (h : Lib.parseIntB 64 s.data.toList = .ok v) (w : World) :
    Calls Tryz.prog 118 #[.string s, .int .i64 10, .int .i64 64] w fun e w' => e = .returned (.tuple #[.int .i64 v, .nilIface]) ∧ (w' = w ∨ ∃ t, w' = Lib.bytesWorld w 5 t) := Any.strconv_ParseInt_10_at64_ok Tryz.laysC174 s hmax v h w
open Go.RowKit in
theorem Tryz.strconv_ParseInt_10_at64_range_var (s : ByteArray) (hlim : s.size ≤ 281474976710656) (h : Lib.parseIntB 64 s.data.toList = .range) (tp : TypeId) (p : Value) (w : World) (hvar : w.var? Tryz.prog "strconv.ErrRange" = some #[.iface tp p]) :
    Calls Tryz.prog 118 #[.string s, .int .i64 10, .int .i64 64] w fun e w' => ∃ N, e = .returned (.tuple #[.int .i64 (Lib.intSat 64 s.data.toList), .iface 218 (.pointer (some ⟨N, 0, none⟩))]) ∧ w.heap.size ≤ N ∧ w'.heap[N]? = some (.cells #[.string ⟨#[80, 97, 114, 115, 101, 73, 110, 116]⟩, .string s, .iface tp p] 238 (0, 0)) ∧ Below w.heap.size w w' := Any.strconv_ParseInt_10_at64_range_var Tryz.laysC174 s hlim h tp p w hvar
end Go.Proofs
end
