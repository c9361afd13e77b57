/- The statement FracReads, proved: for every string the law returns true and leaves it as it was; the listed tables of the library hold what the program's text lays (the given tie). -/
import Derived.Test.YtpmnjjmngogkkaaGreatDoorReadsB4
import Derived.Test.YtpmnjjmngogkkaaGreatDoorReadsB3
import Derived.Test.YtpmnjjmngogkkaaGreatDoorReadsB1
import Derived.Test.YtpmnjjmngogkkaaGreatDoorReadsB2
import Derived.Test.YtpmnjjmngogkkaaGreatDoorCards
import Derived.Test.YtpmnjjmngogkkaaGreatDoorTie
import Derived.ProofKit
import Derived.LaidMore
import Derived.OpenShut
import Derived.Stop.Joined
import Derived.SevenTiedAt
import Derived.Lay
section
set_option linter.unusedVariables false
set_option linter.unusedSimpArgs false
namespace Go.Proofs.YtpmnjjmngogkkaaGreatDoor
open Go Go.RowKit
def effParts : Option Eff → List Ch
  | some (.mk _ l _) => l
  | _ => []
def η0 : Nat → Value := fun _ => undef
def makes : Op → Option TypeId
  | .alloc T => some T
  | .box T _ => some T
  | _ => none
def mkIdx (m0 b : Nat) : List HRec → Option (Nat × ((Nat → Value) → List Ch))
  | [] => none
  | .mk _ _ l :: r => bif Nat.beq b (m0 + cnt r) then some (r.length, l) else mkIdx m0 b r
  | .val _ _ :: r => mkIdx m0 b r
  | .spec _ _ _ :: r => mkIdx m0 b r
  | .st _ _ :: r => mkIdx m0 b r
theorem mkIdx_ok {m0 b k : Nat} {l : (Nat → Value) → List Ch} : ∀ {acc : List HRec}, mkIdx m0 b acc = some (k, l) → ∃ n d T r, acc.drop n = .mk d T l :: r ∧ r.length = k ∧ b = m0 + cnt r := by
  intro acc
  induction acc with
  | nil => intro h; cases h
  | cons x r ih =>
    intro h
    have next : mkIdx m0 b r = some (k, l) → ∃ n d T q, (x :: r).drop n = .mk d T l :: q ∧ q.length = k ∧ b = m0 + cnt q := fun h => by
      obtain ⟨n, d, T, q, h1, h2⟩ := ih h
      exact ⟨n + 1, d, T, q, by simpa using h1, h2⟩
    cases x with
    | val d sv => exact next h
    | spec d p Δ => exact next h
    | st k l => exact next h
    | mk d T lc =>
      simp only [mkIdx] at h
      cases hb : Nat.beq b (m0 + cnt r) with
      | false => rw [hb] at h; exact next h
      | true =>
        rw [hb] at h
        simp only [cond_true, Option.some.injEq, Prod.mk.injEq] at h
        obtain ⟨rfl, rfl⟩ := h
        exact ⟨0, d, T, r, rfl, rfl, Nat.eq_of_beq_eq_true hb⟩
theorem rev_at {acc r : List HRec} {h : HRec} {n : Nat} (e : acc.drop n = h :: r) : acc.reverse[r.length]? = some h ∧ acc.drop (acc.length - r.length) = r := by
  have hl := congrArg List.length e
  simp only [List.length_drop, List.length_cons] at hl
  have h1 : acc[n]? = some h := by
    have := congrArg (fun l : List HRec => l[0]?) e
    simpa using this
  refine ⟨?_, ?_⟩
  · rw [List.getElem?_reverse (by omega), show acc.length - 1 - r.length = n by omega]
    exact h1
  · rw [show acc.length - r.length = n + 1 by omega, ← List.drop_drop, e]
    rfl
def stDeps (k : Nat) (es : List Edge) : List HRec → Bool
  | [] => true
  | .st k' _ :: r => (bif Nat.beq k' k then hasEdge es r.length else true) && stDeps k es r
  | .val _ _ :: r => stDeps k es r
  | .spec _ _ _ :: r => stDeps k es r
  | .mk _ _ _ :: r => stDeps k es r
theorem stDeps_ok {k : Nat} {es : List Edge} : ∀ {acc : List HRec}, stDeps k es acc = true → ∀ (j : Nat) l', acc.reverse[j]? = some (HRec.st k l') → hasEdge es j = true := by
  intro acc
  induction acc with
  | nil => intro _ j l' h; simp at h
  | cons x r ih =>
    intro h j l' hj
    rw [List.reverse_cons] at hj
    have next : stDeps k es r = true → j < r.length → hasEdge es j = true := fun h hjr => by
      rw [List.getElem?_append_left (by simpa using hjr)] at hj
      exact ih h j l' hj
    have hlast : ¬ j < r.length → j = r.length ∧ x = HRec.st k l' := fun hn => by
      have h1 := (List.getElem?_eq_some_iff.1 hj).1
      simp at h1
      obtain rfl : j = r.length := by omega
      simpa using hj
    rcases Nat.lt_or_ge j r.length with hjr | hjr
    · cases x with
      | st k' l => simp only [stDeps, Bool.and_eq_true] at h; exact next h.2 hjr
      | val d sv => exact next h hjr
      | spec d p Δ => exact next h hjr
      | mk d T lc => exact next h hjr
    · obtain ⟨rfl, rfl⟩ := hlast (by omega)
      simp only [stDeps, Bool.and_eq_true, Nat.beq_refl, cond_true] at h
      exact h.1
def storeAt (st : St) (acc : List HRec) : Op → Option (Nat × Nat × ((Nat → Value) → List Ch))
  | .store _ x _ => match opd (frH st acc η0) x with
    | some (.one (.ptr b _)) => (mkIdx st.hp.length b acc).map fun p => (b, p)
    | _ => none
  | _ => none
theorem storeAt_ok {st : St} {acc : List HRec} {o : Op} {b k : Nat} {lc : (Nat → Value) → List Ch} (h : storeAt st acc o = some (b, k, lc)) : ∃ d T, acc.reverse[k]? = some (.mk d T lc) ∧ b = st.hp.length + cnt (acc.drop (acc.length - k)) := by
  unfold storeAt at h
  split at h <;> first | (cases h; done) | skip
  split at h <;> first | (cases h; done) | skip
  rename_i b' o' _
  cases hm : mkIdx st.hp.length b' acc with
  | none => rw [hm] at h; cases h
  | some p =>
    rw [hm] at h
    simp only [Option.map_some, Option.some.injEq, Prod.mk.injEq] at h
    obtain ⟨rfl, rfl⟩ := h
    obtain ⟨n, d, T, r, h1, h2, h3⟩ := mkIdx_ok hm
    obtain ⟨h4, h5⟩ := rev_at h1
    subst h2
    exact ⟨d, T, h4, by rw [h5]; exact h3⟩
noncomputable def hstep (E : Env) (all : List Oper) (st : St) (acc : List HRec) (o : Oper) : HRec :=
  match storeAt st acc o.op with
  | some (b, k, lc) => .st k (fun η => (effSt E (frH st acc η) b (((stOf acc k).getD lc) η) o.op).getD [])
  | none => match makes o.op, guardRun all (frH st acc η0) o with
    | some T, true => .mk (o.dst.getD 0) T (fun η => effParts (effM E (frH st acc η) (st.hp.length + cnt acc) o.op))
    | _, _ => .val (o.dst.getD 0) (fun η => match hval E st.hp all (frH st acc η) o with | some (s, _) => s | none => .und)
noncomputable def okStep (E : Env) (all : List Oper) (st : St) (acc : List HRec) (o : Oper) (η : Nat → Value) : Bool :=
  match storeAt st acc o.op with
  | some (b, k, lc) => o.dst.isNone && hasEdge o.after.toList k && stDeps k o.after.toList acc && guardRun all (frH st acc η) o && (effSt E (frH st acc η) b (((stOf acc k).getD lc) η) o.op).isSome
  | none => o.dst.isSome && match makes o.op, guardRun all (frH st acc η0) o with
    | some _, true => guardRun all (frH st acc η) o && (match effM E (frH st acc η) (st.hp.length + cnt acc) o.op with | some _ => true | none => false)
    | _, _ => match hval E st.hp all (frH st acc η) o with | some (_, []) => true | _ => false
noncomputable def hrecs (E : Env) (all : List Oper) (st : St) : Nat → List HRec → List Oper → List HRec
  | 0, acc, _ => acc
  | _ + 1, acc, [] => acc
  | n + 1, acc, o :: r => hrecs E all st n (hstep E all st acc o :: acc) r
noncomputable def okSteps (E : Env) (all : List Oper) (st : St) (η : Nat → Value) : Nat → List HRec → List Oper → Bool
  | 0, _, _ => true
  | _ + 1, _, [] => false
  | n + 1, acc, o :: r => okStep E all st acc o η && okSteps E all st η n (hstep E all st acc o :: acc) r
theorem effM_form {E : Env} {fr : List (Nat × SV)} {k : Nat} {o : Op} {e : Eff} (h : effM E fr k o = some e) : ∃ T l, makes o = some T ∧ e = .mk T l (.one (.ptr k 0)) := by
  unfold effM at h
  split at h
  · obtain ⟨h1, T', l, s, rfl⟩ := mkOnly_eq h
    unfold effAlloc at h1
    cases ht : E.get _ with
    | none => rw [ht] at h1; cases h1
    | some ti => rw [ht] at h1; simp only [Option.map_some, Option.some.injEq, Eff.mk.injEq] at h1; obtain ⟨rfl, rfl, rfl⟩ := h1; exact ⟨_, _, rfl, rfl⟩
  · obtain ⟨h1, T', l, s, rfl⟩ := mkOnly_eq h
    unfold effBox at h1
    split at h1 <;> first | (cases h1; done) | skip
    rename_i xv _
    cases hc : SV.chunks xv with
    | none => rw [hc] at h1; cases h1
    | some l2 => rw [hc] at h1; simp only [Option.map_some, Option.some.injEq, Eff.mk.injEq] at h1; obtain ⟨rfl, rfl, rfl⟩ := h1; exact ⟨_, _, rfl, rfl⟩
  · cases h
section
variable {c : Cx} {st : St} {G : Gh} {all : List Oper} {K : List HRec → Prop} {acc : List HRec} {ops : List Oper}
theorem hstep_loc {o : Oper} (h : ∀ η, okStep c.E all st acc o η = true) : Loc c st G all acc o (hstep c.E all st acc o) := by
  unfold okStep at h
  unfold hstep
  cases hsa : storeAt st acc o.op with
  | some p =>
    obtain ⟨b, k, lc⟩ := p
    simp only [hsa, Bool.and_eq_true] at h
    obtain ⟨d, T, h1, h2⟩ := storeAt_ok hsa
    have h0 := h η0
    refine ⟨by simpa using h0.1.1.1.1, h0.1.1.1.2, stDeps_ok h0.1.1.2, d, T, lc, h1, fun η => ⟨(h η).1.2, ?_⟩⟩
    rw [← h2]
    have h3 := (h η).2
    cases he : effSt c.E (frH st acc η) b (((stOf acc k).getD lc) η) o.op with
    | none => rw [he] at h3; cases h3
    | some l => simp [he]
  | none =>
  simp only [hsa] at h
  have hd : o.dst = some (o.dst.getD 0) := by
    have := h η0
    simp only [Bool.and_eq_true] at this
    cases hx : o.dst with
    | none => rw [hx] at this; cases this.1
    | some d => rfl
  have plain : (∀ η, (match hval c.E st.hp all (frH st acc η) o with | some (_, []) => true | _ => false) = true) →
      Loc c st G all acc o (.val (o.dst.getD 0) (fun η => match hval c.E st.hp all (frH st acc η) o with | some (s, _) => s | none => .und)) := by
    intro h2
    refine ⟨hd, fun η => ?_⟩
    have h3 := h2 η
    split at h3 <;> first | (cases h3; done) | skip
    rename_i s he
    exact ⟨s, [], he, fun S w _ _ _ _ => ⟨trivial, fun β => by simp only [he]; exact ⟨trivial, fun m hm => hm⟩⟩⟩
  cases hm : makes o.op with
  | none =>
    simp only [hm, Bool.and_eq_true] at h
    exact plain fun η => (h η).2
  | some T =>
    cases hg : guardRun all (frH st acc η0) o with
    | false =>
      simp only [hm, hg, Bool.and_eq_true] at h
      exact plain fun η => (h η).2
    | true =>
      simp only [hm, hg, Bool.and_eq_true] at h
      refine ⟨hd, fun η => ⟨(h η).2.1, ?_⟩⟩
      have h2 := (h η).2.2
      split at h2 <;> first | (cases h2; done) | skip
      rename_i e he
      obtain ⟨T', l, h3, rfl⟩ := effM_form he
      rw [hm] at h3
      simp only [Option.some.injEq] at h3
      subst h3
      simp only [he, effParts]
/-- Operations that need no thought. -/
theorem hd_run (n : Nat) (h : ∀ η, okSteps c.E all st η n acc ops = true) (k : Hd c st G all K (hrecs c.E all st n acc ops) (ops.drop n)) : Hd c st G all K acc ops := by
  induction n generalizing acc ops with
  | zero => exact k
  | succ n ih =>
    cases ops with
    | nil => have := h η0; cases this
    | cons o r =>
      simp only [okSteps, Bool.and_eq_true] at h
      exact ⟨⟨_, hstep_loc fun η => (h η).1, (ih (fun η => (h η).2) k).run⟩⟩
def opH (ops : List Oper) : Oper := match ops with | o :: _ => o | [] => ⟨none, .alloc 0, 0, "", #[], none⟩
noncomputable def hvS (c : Cx) (all : List Oper) (st : St) (acc : List HRec) (ops : List Oper) (η : Nat → Value) : SV := match hval c.E st.hp all (frH st acc η) (opH ops) with | some (s, _) => s | none => .und
noncomputable def hvC (c : Cx) (all : List Oper) (st : St) (acc : List HRec) (ops : List Oper) (η : Nat → Value) : List Prop := match hval c.E st.hp all (frH st acc η) (opH ops) with | some (_, l) => l | none => []
noncomputable def hvOk (c : Cx) (all : List Oper) (st : St) (acc : List HRec) (ops : List Oper) (η : Nat → Value) : Bool := (hval c.E st.hp all (frH st acc η) (opH ops)).isSome && (opH ops).dst.isSome && !ops.isEmpty
/-- An operation whose value is said in another way, or has conditions. -/
theorem hd_val (sv : (Nat → Value) → SV) (hok : ∀ η, hvOk c all st acc ops η = true) (hs : ∀ η, (sv η).Ok 0)
    (h : ∀ η S w, Ext c.w0 w → (∀ k, S k → c.S0 k) → G.p S w → depsH acc (opH ops).after.toList η S w → VcOk (hvC c all st acc ops η) ∧ ∀ β, (hvS c all st acc ops η).den β = (sv η).den β)
    (k : Hd c st G all K (.val ((opH ops).dst.getD 0) sv :: acc) (ops.drop 1)) : Hd c st G all K acc ops := by
  cases ops with
  | nil => have := hok η0; simp [hvOk] at this
  | cons o r =>
    refine ⟨⟨.val ((opH (o :: r)).dst.getD 0) sv, ⟨?_, fun η => ?_⟩, k.run⟩⟩
    · have := hok η0
      simp only [hvOk, Bool.and_eq_true] at this
      cases hx : o.dst with
      | none => have h2 := this.1.2; simp [opH, hx] at h2
      | some d => simp [opH, hx]
    · have h1 := hok η
      unfold hvOk at h1
      simp only [Bool.and_eq_true] at h1
      cases he : hval c.E st.hp all (frH st acc η) o with
      | none => have h2 := h1.1.1; simp [opH, he] at h2
      | some x =>
        obtain ⟨s, vc⟩ := x
        refine ⟨s, vc, rfl, fun S w hw hS hG hd => ?_⟩
        obtain ⟨h2, h3⟩ := h η S w hw hS hG hd
        have e1 : hvC c all st acc (o :: r) η = vc := by unfold hvC; simp [opH, he]
        have e2 : hvS c all st acc (o :: r) η = s := by unfold hvS; simp [opH, he]
        rw [e1] at h2
        refine ⟨h2.all, fun β => ⟨?_, fun m _ => (hs η).le (Nat.zero_le _)⟩⟩
        rw [← h3 β, e2]
/-- A test whose outcome is known. -/
theorem hd_tst {p : Prop} (b : Bool) (hok : ∀ η, hvOk c all st acc ops η = true) (hv : ∀ η, hvC c all st acc ops η = []) (he : ∀ η, hvS c all st acc ops η = .one (.tp p)) (hp : p ↔ b = true)
    (k : Hd c st G all K (.val ((opH ops).dst.getD 0) (fun _ => .one (.bb b)) :: acc) (ops.drop 1)) : Hd c st G all K acc ops := by
  refine hd_val (fun _ => .one (.bb b)) hok (fun _ => trivial) (fun η S w _ _ _ _ => ⟨⟨by rw [hv]; trivial⟩, fun β => ?_⟩) k
  rw [he]
  refine congrArg Value.bool ?_
  cases b with
  | true => exact tst_true (hp.2 rfl)
  | false => exact tst_false fun h => by cases hp.1 h
def hOut (st : St) (acc : List HRec) (ops : List Oper) (η : Nat → Value) : Out := ⟨.ops [] [⟨(opH ops).dst, (opH ops).op, (opH ops).type, (opH ops).pos, (opH ops).after, none⟩], [], ⟨frH st acc η, st.hp⟩, []⟩
def isCallH (all : List Oper) (st : St) (acc : List HRec) (ops : List Oper) (f : FuncId) (η : Nat → Value) : Bool := isCall f (hOut st acc ops η) && guardRun all (frH st acc η) (opH ops) && !ops.isEmpty
theorem call_dst {o : Out} {f : FuncId} {all : List Oper} {o1 : Oper} {r : List Oper} (hf : isCall f o = true) (hcur : o.cur = .ops all (o1 :: r)) : o1.dst = some (o1.dst.getD 0) := by
  unfold isCall at hf
  cases hco : callOf o.st o.cur with
  | none => rw [hco] at hf; cases hf
  | some x =>
    rw [hcur] at hco
    unfold callOf at hco
    simp only at hco
    split at hco <;> first | (cases hco; done) | skip
    rename_i d' cl hg hd hop
    rw [hd]
    rfl
theorem call_runK {o : Out} {f : FuncId} [ci : CallI c.P f] {β : Nat → Nat} {F : Fr} {w : World} {m : Nat} {all : List Oper} {o1 : Oper} {r : List Oper} (hf : isCall f o = true) (hcur : o.cur = .ops all (o1 :: r)) (hk : OpsKn β m o.st.fr (ev F) o1.op) :
    ∀ d pos aft g, (execOp (ev F) ⟨d, o1.op, o1.type, pos, aft, g⟩).run c.P w = .ok (.enter f ((callArgs o).map (SV.den β)).toArray) w := by
  unfold isCall at hf
  cases hco : callOf o.st o.cur with
  | none => rw [hco] at hf; cases hf
  | some x =>
    obtain ⟨g, l, d⟩ := x
    rw [hco] at hf
    obtain rfl : g = f := Nat.eq_of_beq_eq_true hf
    have hargs : callArgs o = l := by unfold callArgs; rw [hco]
    rw [hcur] at hco
    unfold callOf at hco
    simp only at hco
    split at hco <;> first | (cases hco; done) | skip
    rename_i d' cl hg hd hop
    split at hco <;> first | (cases hco; done) | skip
    rename_i x hcl
    split at hco <;> first | (cases hco; done) | skip
    rename_i f' cap hx
    split at hco <;> first | (cases hco; done) | skip
    rename_i l' hl
    simp only [Option.some.injEq, Prod.mk.injEq] at hco
    obtain ⟨rfl, rfl, rfl⟩ := hco
    rw [hop] at hk
    have hmem : ∀ y, y = x ∨ y ∈ cl.args.toList → y ∈ (Op.call cl).operands.toList := by
      intro y hy
      simp only [Op.operands, Call.operands, hcl, Array.toList_append, List.mem_append]
      rcases hy with rfl | hy
      · left; simp
      · exact .inr hy
    have h1 := (hk x (hmem x (.inl rfl)) _ hx).1
    have h2 : cl.args.toList.map (ev F) = l'.map (SV.den β) := by
      have aux : ∀ (xs : List Operand) (l : List SV), (∀ y ∈ xs, y ∈ cl.args.toList) → allSV (xs.map (opd o.st.fr)) = some l → xs.map (ev F) = l.map (SV.den β) := by
        intro xs
        induction xs with
        | nil => intro l _ h; simp only [List.map_nil, allSV, Option.some.injEq] at h; subst h; rfl
        | cons x r ih =>
          intro l hm h
          simp only [List.map_cons, allSV] at h
          split at h <;> first | (cases h; done) | skip
          rename_i s l' e1 e2
          simp only [Option.some.injEq] at h
          subst h
          rw [List.map_cons, List.map_cons, ih l' (fun y hy => hm y (List.mem_cons_of_mem _ hy)) e2, (hk x (hmem x (.inr (hm x (List.mem_cons_self ..)))) _ e1).1]
      exact aux _ _ (fun y hy => hy) hl
    intro d pos aft g
    rw [hargs, List.map_append, capSV_den, ← h2, hop]
    obtain ⟨callee, args, ts⟩ := cl
    simp only at hcl
    subst hcl
    simp [execOp, resolve, Deferred.ofValue, h1, SV.den, Ch.den, invoke, ci.run]
theorem hd_callE (f : FuncId) [ci : CallI c.P f] (p : Value → SV) (Δ : Value → Gh) (hf : ∀ η, isCallH all st acc ops f η = true)
    (h : ∀ β η S w, Up S w → (∀ k, S k → c.S0 k) → Ext c.w0 w → G.p S w → depsH acc (opH ops).after.toList η S w → ∃ args, (callArgs (hOut st acc ops η)).map (SV.den β) = args ∧
      GivesE c.P f args w (fun v w' => Ext w w' ∧ v = (p v).den (fun _ => 0) ∧ (p v).Ok 0 ∧ (Δ v).p S w') fun ch w' => ∀ ρ, c.Q (.panic ch) ρ w')
    (k : Hd c st G all K (.spec ((opH ops).dst.getD 0) p Δ :: acc) (ops.drop 1)) : Hd c st G all K acc ops := by
  cases ops with
  | nil => have := hf η0; simp [isCallH] at this
  | cons o r =>
    have hk : ∀ η, isCall f (hOut st acc (o :: r) η) = true ∧ guardRun all (frH st acc η) o = true := fun η => by
      have := hf η
      simp only [isCallH, Bool.and_eq_true] at this
      exact ⟨this.1.1, this.1.2⟩
    refine ⟨⟨.spec ((opH (o :: r)).dst.getD 0) p Δ, ⟨?_, fun η => ⟨(hk η).2, ?_⟩⟩, k.run⟩⟩
    · exact call_dst (o1 := ⟨o.dst, o.op, o.type, o.pos, o.after, none⟩) (hk η0).1 rfl
    · intro β S w F m hkn hup hS hw hG hd
      obtain ⟨args, ha, hg⟩ := h β η S w hup hS hw hG hd
      have h2 := call_runK (c := c) (w := w) (o1 := ⟨o.dst, o.op, o.type, o.pos, o.after, none⟩) (hk η).1 rfl hkn
      unfold OpRun
      obtain ⟨dst, op, ty, pos, aft, g⟩ := o
      rw [h2 dst pos aft g, ha]
      exact hg
theorem hd_call (f : FuncId) [ci : CallI c.P f] (p : Value → SV) (Δ : Value → Gh) (hf : ∀ η, isCallH all st acc ops f η = true)
    (h : ∀ β η S w, Up S w → (∀ k, S k → c.S0 k) → Ext c.w0 w → G.p S w → depsH acc (opH ops).after.toList η S w → ∃ args, (callArgs (hOut st acc ops η)).map (SV.den β) = args ∧
      Gives c.P f args w fun v w' => Ext w w' ∧ v = (p v).den (fun _ => 0) ∧ (p v).Ok 0 ∧ (Δ v).p S w')
    (k : Hd c st G all K (.spec ((opH ops).dst.getD 0) p Δ :: acc) (ops.drop 1)) : Hd c st G all K acc ops :=
  hd_callE f p Δ hf (fun β η S w h1 h2 h3 h4 h5 => let ⟨args, ha, hg⟩ := h β η S w h1 h2 h3 h4 h5; ⟨args, ha, hg.e⟩) k
/-- The head is done: what is known, in a form of one's own. -/
theorem hd_done (G' : (Nat → Value) → Gh) (hn : ops.isEmpty = true) (hG : ∀ η, accG G η acc = G' η) {l : List Oper} {t : Nat} {kk : List Kt}
    (h : ∀ η, Run c ⟨.ops l (l.drop t), kk, ⟨frH st acc η, st.hp ++ accNw η acc⟩, []⟩ (G' η)) : Hd c st G all (fun acc => ∀ η, Run c ⟨.ops l (l.drop t), kk, ⟨frH st acc η, st.hp ++ accNw η acc⟩, []⟩ (accG G η acc)) acc ops := by
  cases ops with
  | nil => exact ⟨fun η => by rw [hG]; exact h η⟩
  | cons o r => cases hn
end
end Go.Proofs.YtpmnjjmngogkkaaGreatDoor
end

section
set_option linter.unusedVariables false
set_option linter.unusedSimpArgs false
namespace Go.Proofs.YtpmnjjmngogkkaaGreatDoor
open Go Go.RowKit
section
variable {c : Cx} {o : Out} {G : Gh}
noncomputable abbrev ex (c : Cx) (o : Out) : Out := exec c.E false 400 o
theorem s_go (hc : c.Ok) (hv : (ex c o).vc = []) (h : Run c (ex c o) G) : Run c o G := t_run hc false 400 (vc0 hv) h
theorem s_vc {ps : List Prop} (hc : c.Ok) (hv : (ex c o).vc = ps) (hp : AllT ps) (h : Run c ⟨(ex c o).cur, (ex c o).k, (ex c o).st, []⟩ G) : Run c o G := t_run hc false 400 (vcs hv hp) ⟨h.run⟩
/-- A call whose result is known. -/
theorem s_K {f : FuncId} [ci : CallI c.P f] {X : Value} (s : SV) (hc : c.Ok) (hv : (ex c o).vc = []) (hf : isCall f (ex c o) = true) (hok : s.Ok 0) (hX : s.den (fun _ => 0) = X)
    (h : ∀ β S w, Up S w → (∀ k, S k → c.S0 k) → Ext c.w0 w → G.p S w → ∃ args, (callArgs (ex c o)).map (SV.den β) = args ∧ Gives c.P f args w fun v w' => v = X ∧ Ext w w')
    (hn : Run c (callNext (ex c o) s) G) : Run c o G := by
  refine s_go hc hv (t_call f hc (fun _ : Unit => s) (fun _ => True) (fun _ => .nil) hf (fun β S w h1 h2 h3 h4 => ?_) fun _ _ => ?_)
  · obtain ⟨args, ha, hg⟩ := h β S w h1 h2 h3 h4
    refine ⟨args, ha, hg.mono fun v w' hv => ⟨hv.2, (), ?_, hok, trivial, trivial⟩⟩
    rw [hv.1, ← hX]
    exact SV.den_congr (m := 0) (fun i hi => absurd hi (Nat.not_lt_zero i)) hok
  · exact t_facts (fun S w _ h => h.2) hn
/-- A call of whose result one thing is known. -/
theorem s_1 {f : FuncId} [ci : CallI c.P f] (pat : Value → SV) (Δ : Value → Gh) (hc : c.Ok) (hv : (ex c o).vc = []) (hf : isCall f (ex c o) = true) (hok : ∀ a S w, (Δ a).p S w → (pat a).Ok 0 ∧ (pat a).den (fun _ => 0) = a)
    (h : ∀ β S w, Up S w → (∀ k, S k → c.S0 k) → Ext c.w0 w → G.p S w → ∃ args, (callArgs (ex c o)).map (SV.den β) = args ∧ Gives c.P f args w fun v w' => Ext w w' ∧ (Δ v).p S w')
    (hn : ∀ a, Run c (callNext (ex c o) (pat a)) ((Δ a).and G)) : Run c o G := by
  refine s_go hc hv (t_call f hc pat (fun _ => True) Δ hf (fun β S w h1 h2 h3 h4 => ?_) fun a _ => hn a)
  obtain ⟨args, ha, hg⟩ := h β S w h1 h2 h3 h4
  refine ⟨args, ha, hg.mono fun v w' hv => ?_⟩
  obtain ⟨e1, e2⟩ := hok v S w' hv.2
  exact ⟨hv.1, v, by rw [SV.den_congr (m := 0) (β' := fun _ => 0) (fun i hi => absurd hi (Nat.not_lt_zero i)) e1, e2], e1, trivial, hv.2⟩
theorem s_if {p : Prop} (hc : c.Ok) (hv : (ex c o).vc = []) (hd : isCond (ex c o) = true) (hp : condP (ex c o) = p) (ht : p → Run c (condNext (ex c o) true) G) (hf : ¬ p → Run c (condNext (ex c o) false) G) : Run c o G := s_go hc hv (t_if hd hp ht hf)
theorem s_yes {p : Prop} (hc : c.Ok) (hv : (ex c o).vc = []) (hd : isCond (ex c o) = true) (hp : condP (ex c o) = p) (h : p) (ht : Run c (condNext (ex c o) true) G) : Run c o G := s_go hc hv (t_yes hd hp h ht)
theorem s_no {p : Prop} (hc : c.Ok) (hv : (ex c o).vc = []) (hd : isCond (ex c o) = true) (hp : condP (ex c o) = p) (h : ¬ p) (ht : Run c (condNext (ex c o) false) G) : Run c o G := s_go hc hv (t_no hd hp h ht)
theorem s_drawn (t : Nat) (hc : c.Ok) (hv : (ex c o).vc = []) (hmo : c.P.follows .mixedOrders = true) (hd : isDrawn (ex c o) t = true)
    (h : Hd c (ex c o).st G (drawnOps (ex c o)) (fun acc => ∀ η, Run c ⟨.ops (drawnOps (ex c o)) ((drawnOps (ex c o)).drop t), (ex c o).k, ⟨frH (ex c o).st acc η, (ex c o).st.hp ++ accNw η acc⟩, []⟩ (accG G η acc)) [] ((drawnOps (ex c o)).take t)) : Run c o G :=
  s_go hc hv (t_drawn t hmo hc hd h)
end
theorem s_ret {P : Program} {fn : Func} {E : Env} {w0 : World} {S0 : Nat → Prop} {Ψ : Value → World → Prop} {rs : List ResultVar} {o : Out} {G : Gh} (v : Value) (hc : (Cx.fn P fn E w0 S0 Ψ).Ok) (hv0 : (ex (Cx.fn P fn E w0 S0 Ψ) o).vc = []) (hrs : fn.results.toList = rs) (he : isEnd (ex (Cx.fn P fn E w0 S0 Ψ) o) = true) (hv : ∀ β, resV' E rs (ex (Cx.fn P fn E w0 S0 Ψ) o).st β = some v)
    (h : ∀ S w, (∀ k, S k → S0 k) → Ext w0 w → G.p S w → Ψ v w) : Run (Cx.fn P fn E w0 S0 Ψ) o G := s_go hc hv0 (t_ret v hc hrs he hv h)
section
variable {c : Cx} {st : St} {G : Gh} {all : List Oper} {K : List HRec → Prop} {acc : List HRec} {ops : List Oper}
/-- A call in a head, whose result is known. -/
theorem h_K {f : FuncId} [ci : CallI c.P f] {X : Value} (s : SV) (hf : ∀ η, isCallH all st acc ops f η = true) (hok : s.Ok 0) (hX : s.den (fun _ => 0) = X)
    (h : ∀ β η S w, Up S w → (∀ k, S k → c.S0 k) → Ext c.w0 w → G.p S w → depsH acc (opH ops).after.toList η S w → ∃ args, (callArgs (hOut st acc ops η)).map (SV.den β) = args ∧ Gives c.P f args w fun v w' => v = X ∧ Ext w w')
    (k : Hd c st G all K (.spec ((opH ops).dst.getD 0) (fun _ => s) (fun _ => .nil) :: acc) (ops.drop 1)) : Hd c st G all K acc ops :=
  hd_call f (fun _ => s) (fun _ => .nil) hf (fun β η S w h1 h2 h3 h4 h5 => let ⟨args, ha, hg⟩ := h β η S w h1 h2 h3 h4 h5; ⟨args, ha, hg.mono fun v w' hv => ⟨hv.2, hv.1.trans hX.symm, hok, trivial⟩⟩) k
/-- A call in a head, of whose result one thing is known. -/
theorem h_1 {f : FuncId} [ci : CallI c.P f] (pat : Value → SV) (Δ : Value → Gh) (hf : ∀ η, isCallH all st acc ops f η = true) (hok : ∀ a S w, (Δ a).p S w → (pat a).Ok 0 ∧ (pat a).den (fun _ => 0) = a)
    (h : ∀ β η S w, Up S w → (∀ k, S k → c.S0 k) → Ext c.w0 w → G.p S w → depsH acc (opH ops).after.toList η S w → ∃ args, (callArgs (hOut st acc ops η)).map (SV.den β) = args ∧ Gives c.P f args w fun v w' => Ext w w' ∧ (Δ v).p S w')
    (k : Hd c st G all K (.spec ((opH ops).dst.getD 0) pat Δ :: acc) (ops.drop 1)) : Hd c st G all K acc ops :=
  hd_call f pat Δ hf (fun β η S w h1 h2 h3 h4 h5 => let ⟨args, ha, hg⟩ := h β η S w h1 h2 h3 h4 h5; ⟨args, ha, hg.mono fun v w' hv => ⟨hv.1, (hok v S w' hv.2).2.symm, (hok v S w' hv.2).1, hv.2⟩⟩) k
/-- What is known of an operation that is waited for. -/
theorem dep {es : List Edge} {η : Nat → Value} {S : Nat → Prop} {w : World} {q : Prop} (h : depsH acc es η S w) (j : Nat) (hj : hasEdge es j = true) (e : (accD η acc j).p S w = q) : q := e ▸ h.all j hj
end
end Go.Proofs.YtpmnjjmngogkkaaGreatDoor
end

section
set_option linter.unusedVariables false
set_option linter.unusedSimpArgs false
namespace Go.Proofs.YtpmnjjmngogkkaaGreatDoor
open Go Go.RowKit
def keepFr (W : List (Nat × Nat)) : List (Nat × SV) → List (Nat × SV)
  | [] => []
  | p :: r => bif inW W p.1 then keepFr W r else p :: keepFr ((p.1, p.1) :: W) r
def setMany (hp : List HE) : List (Nat × HE) → List HE
  | [] => hp
  | (i, x) :: r => setN (setMany hp r) i x
/-- A state, but for the slots of W and some entries. -/
def stM (st : St) (W : List (Nat × Nat)) (ov : List (Nat × SV)) (oh : List (Nat × HE)) : St := ⟨ov ++ keepFr W st.fr, setMany st.hp oh⟩
theorem setMany_len {hp : List HE} : ∀ {oh : List (Nat × HE)}, (setMany hp oh).length = hp.length := by
  intro oh
  induction oh with
  | nil => rfl
  | cons p r ih => obtain ⟨i, x⟩ := p; simp only [setMany, setN_eq, List.length_set, ih]
theorem inW_more {W : List (Nat × Nat)} {i d : Nat} (h : inW W d = true) : inW ((i, i) :: W) d = true := by
  simp only [inW]
  cases Nat.ble i d <;> cases Nat.ble d i <;> simp [h]
theorem keepFr_none : ∀ {fr : List (Nat × SV)} {W : List (Nat × Nat)} {d : Nat}, inW W d = true → look (keepFr W fr) d = none := by
  intro fr
  induction fr with
  | nil => intro W d _; rfl
  | cons p r ih =>
    obtain ⟨i, x⟩ := p
    intro W d hd
    simp only [keepFr]
    cases hb : inW W i with
    | true => exact ih hd
    | false =>
      simp only [cond_false]
      rw [look_cons, if_neg (fun e => by rw [e, hd] at hb; cases hb)]
      exact ih (inW_more hd)
theorem keepFr_look : ∀ {fr : List (Nat × SV)} {W : List (Nat × Nat)} {d : Nat} {s : SV}, look (keepFr W fr) d = some s → look fr d = some s := by
  intro fr
  induction fr with
  | nil => intro W d s h; exact h
  | cons p r ih =>
    obtain ⟨i, x⟩ := p
    intro W d s h
    simp only [keepFr] at h
    rw [look_cons]
    cases hb : inW W i with
    | true =>
      rw [hb] at h
      by_cases e : i = d
      · subst e
        have h2 : look (keepFr W r) i = some s := h
        rw [keepFr_none hb] at h2
        cases h2
      · rw [if_neg e]
        exact ih h
    | false =>
      rw [hb] at h
      simp only [cond_false] at h
      rw [look_cons] at h
      split
      · rename_i e
        rwa [if_pos e] at h
      · rename_i e
        rw [if_neg e] at h
        exact ih h
theorem Sat.stOk {base : Nat} {st : St} {β : Nat → Nat} {ρ : Fr} {w : World} (h : Sat base st β ρ w) : StOk st := by
  refine ⟨fun d s hs => ((h.fr d) s hs).2, fun x hx => ?_⟩
  obtain ⟨i, hi, rfl⟩ := List.mem_iff_getElem.1 hx
  cases he : st.hp[i] with
  | blk T l => exact (h.mem.blk i T l (by rw [List.getElem?_eq_getElem hi, he])).2
  | row T s v n cs => trivial
  | gone => trivial
theorem stM_ok {st : St} {W : List (Nat × Nat)} {ov : List (Nat × SV)} {oh : List (Nat × HE)} (h : StOk st) (h1 : ∀ p ∈ ov, p.2.Ok st.hp.length) (h2 : ∀ p ∈ oh, p.2.Ok st.hp.length) : StOk (stM st W ov oh) := by
  have hl : (stM st W ov oh).hp.length = st.hp.length := setMany_len
  refine ⟨fun d s hs => ?_, fun x hx => ?_⟩
  · rw [hl]
    have hs' : look (ov ++ keepFr W st.fr) d = some s := hs
    rw [look_append] at hs'
    cases he : look ov d with
    | some y =>
      rw [he] at hs'
      simp only [Option.some.injEq] at hs'
      subst hs'
      exact h1 _ (look_mem he)
    | none => rw [he] at hs'; exact h.1 d s (keepFr_look hs')
  · rw [hl]
    have aux : ∀ {oh : List (Nat × HE)}, (∀ p ∈ oh, p.2.Ok st.hp.length) → ∀ x ∈ setMany st.hp oh, x.Ok st.hp.length := by
      intro oh
      induction oh with
      | nil => intro _ x hx; exact h.2 x hx
      | cons p r ih =>
        obtain ⟨i, y⟩ := p
        intro hp x hx
        simp only [setMany, setN_eq] at hx
        rcases List.mem_or_eq_of_mem_set hx with hx | rfl
        · exact ih (fun p hp' => hp p (List.mem_cons_of_mem _ hp')) x hx
        · exact hp _ (List.mem_cons_self ..)
    exact aux h2 x hx
/-- The parts are such as they should be, of themselves. -/
def freeCh (m : Nat) : Ch → Bool
  | .val _ => false
  | .ag _ _ => false
  | .sl _ _ => false
  | .fn _ cap => cap.all fun c => match c with | .inl b => Nat.blt b m | .inr _ => true
  | .ptr b _ => Nat.blt b m
  | .win b _ _ _ => Nat.blt b m
  | _ => true
theorem freeCh_ok {m : Nat} {c : Ch} (h : freeCh m c = true) : c.Ok m := by
  cases c with
  | val x => cases h
  | ag n x => cases h
  | sl x n => cases h
  | fn g cap => exact fun b hb => Nat.le_of_ble_eq_true (List.all_eq_true.1 h _ hb)
  | ptr b o => exact Nat.le_of_ble_eq_true h
  | win b o n c => exact Nat.le_of_ble_eq_true h
  | _ => trivial
theorem ok_agg {m : Nat} {l : List Ch} (h : l.all (freeCh m) = true) : (SV.agg l).Ok m := fun c hc => freeCh_ok (List.all_eq_true.1 h c hc)
def freeSV (m : Nat) : SV → Bool
  | .one c => freeCh m c
  | .agg l => l.all (freeCh m)
  | .tup _ => false
  | .und => true
theorem ov_free {m : Nat} {l : List (Nat × SV)} (h : (l.all fun p => freeSV 0 p.2) = true) : ∀ p ∈ l, p.2.Ok m := by
  intro p hp
  have h1 := List.all_eq_true.1 h p hp
  refine SV.Ok.le (m := 0) ?_ (Nat.zero_le _)
  obtain ⟨d, s⟩ := p
  cases s with
  | one c => exact freeCh_ok h1
  | agg l => exact ok_agg h1
  | tup l => cases h1
  | und => trivial
/-- The same, of values whose parts are known. -/
def chB : Ch → Bool
  | .sl (.slice _ n k) m => Nat.beq n m && Nat.ble m k
  | c => freeCh 0 c
theorem chB_ok {c : Ch} (h : chB c = true) : c.Ok 0 := by
  unfold chB at h
  split at h
  · simp only [Bool.and_eq_true] at h
    obtain rfl := Nat.eq_of_beq_eq_true h.1
    exact ⟨_, _, rfl, Nat.le_of_ble_eq_true h.2⟩
  · exact freeCh_ok h
def svB : SV → Bool
  | .one c => chB c
  | .agg l => l.all chB
  | .tup l => l.all fun p => p.2.all chB
  | .und => true
theorem svB_ok {s : SV} (h : svB s = true) : s.Ok 0 := by
  cases s with
  | one c => exact chB_ok h
  | agg l => exact fun c hc => chB_ok (List.all_eq_true.1 h c hc)
  | tup l => exact fun p hp c hc => chB_ok (List.all_eq_true.1 (List.all_eq_true.1 h p hp) c hc)
  | und => trivial
section
variable {c : Cx} {o : Out} {G : Gh} {ι : Type}
/-- The part ahead ends in one of some states: those ahead of it, but for what it writes. -/
theorem s_mid (W : List (Nat × Nat)) (ov : ι → List (Nat × SV)) (oh : ι → List (Nat × HE)) (GI : ι → Gh) (pre : ι → Prop) (hc : c.Ok) (hv : (ex c o).vc = [])
    (h1 : StOk (ex c o).st → Run (c.sub (MidR c (fun i => stM (ex c o).st W (ov i) (oh i)) GI pre) (ex c o).k) ⟨(ex c o).cur, [], (ex c o).st, []⟩ G)
    (h2 : ∀ i, pre i → Run c ⟨.ex .normal, (ex c o).k, stM (ex c o).st W (ov i) (oh i), []⟩ (GI i)) : Run c o G := by
  refine s_go hc hv ⟨fun β ρ w hS hw hG => ?_⟩
  exact (t_mid _ GI pre (h1 hS.stOk) h2).run β ρ w hS hw hG
theorem s_join {W : List (Nat × Nat)} {ov : ι → List (Nat × SV)} {oh : ι → List (Nat × HE)} {st0 : St} {GI : ι → Gh} {pre : ι → Prop} {k : List Kt} (i : ι) (hc : c.Ok) (hso : StOk st0) (hv : (ex (c.sub (MidR c (fun i => stM st0 W (ov i) (oh i)) GI pre) k) o).vc = [])
    (he : isNorm (ex (c.sub (MidR c (fun i => stM st0 W (ov i) (oh i)) GI pre) k) o) = true)
    (hf : ∀ β, frV β (ex (c.sub (MidR c (fun i => stM st0 W (ov i) (oh i)) GI pre) k) o).st.fr (stM st0 W (ov i) (oh i)).fr = frV' β (stM st0 W (ov i) (oh i)).fr)
    (hh : ∀ β, keepH β (ex (c.sub (MidR c (fun i => stM st0 W (ov i) (oh i)) GI pre) k) o).st.hp (stM st0 W (ov i) (oh i)).hp = (stM st0 W (ov i) (oh i)).hp.map (HE.den β))
    (hl : Nat.ble (stM st0 W (ov i) (oh i)).hp.length (ex (c.sub (MidR c (fun i => stM st0 W (ov i) (oh i)) GI pre) k) o).st.hp.length = true)
    (hp : pre i) (ho : ∀ S w, Ext c.w0 w → G.p S w → (∀ p ∈ ov i, p.2.Ok st0.hp.length) ∧ ∀ p ∈ oh i, p.2.Ok st0.hp.length) (hg : ∀ S w, Ext c.w0 w → G.p S w → (GI i).p S w) :
    Run (c.sub (MidR c (fun i => stM st0 W (ov i) (oh i)) GI pre) k) o G :=
  s_go hc.sub hv (t_join i he hp (subS hf hh hl) (fun S w hw h => let ⟨h1, h2⟩ := ho S w hw h; stM_ok hso h1 h2) hg)
/-- A loop. -/
theorem s_loop (W : List (Nat × Nat)) (ov : ι → List (Nat × SV)) (oh : ι → List (Nat × HE)) (GI : ι → Gh) (pre : ι → Prop) (m : ι → Nat) (i : ι) (hc : c.Ok) (hv : (ex c o).vc = []) (he : isLoop (ex c o) = true)
    (hf : ∀ β, frV β (ex c o).st.fr (stM (ex c o).st W (ov i) (oh i)).fr = frV' β (stM (ex c o).st W (ov i) (oh i)).fr)
    (hh : ∀ β, keepH β (ex c o).st.hp (stM (ex c o).st W (ov i) (oh i)).hp = (stM (ex c o).st W (ov i) (oh i)).hp.map (HE.den β))
    (hl : Nat.ble (stM (ex c o).st W (ov i) (oh i)).hp.length (ex c o).st.hp.length = true)
    (hp : pre i) (ho : ∀ S w, Ext c.w0 w → G.p S w → (∀ p ∈ ov i, p.2.Ok (ex c o).st.hp.length) ∧ ∀ p ∈ oh i, p.2.Ok (ex c o).st.hp.length) (hg : ∀ S w, Ext c.w0 w → G.p S w → (GI i).p S w)
    (hb : StOk (ex c o).st → ∀ i, pre i → Run (c.sub (LoopR c (fun i => stM (ex c o).st W (ov i) (oh i)) GI pre m i) (ex c o).k) ⟨.code (loopBody (ex c o)), [], stM (ex c o).st W (ov i) (oh i), []⟩ (GI i)) : Run c o G := by
  refine s_go hc hv ⟨fun β ρ w hS hw hG => ?_⟩
  exact (t_loop _ GI pre m i he hp (subS hf hh hl) (fun S w hw h => let ⟨h1, h2⟩ := ho S w hw h; stM_ok hS.stOk h1 h2) hg (hb hS.stOk)).run β ρ w hS hw hG
theorem s_again {W : List (Nat × Nat)} {ov : ι → List (Nat × SV)} {oh : ι → List (Nat × HE)} {st0 : St} {GI : ι → Gh} {pre : ι → Prop} {m : ι → Nat} {j : ι} {k : List Kt} (i : ι) (hc : c.Ok) (hso : StOk st0) (hv : (ex (c.sub (LoopR c (fun i => stM st0 W (ov i) (oh i)) GI pre m j) k) o).vc = [])
    (he : isNorm (ex (c.sub (LoopR c (fun i => stM st0 W (ov i) (oh i)) GI pre m j) k) o) = true)
    (hf : ∀ β, frV β (ex (c.sub (LoopR c (fun i => stM st0 W (ov i) (oh i)) GI pre m j) k) o).st.fr (stM st0 W (ov i) (oh i)).fr = frV' β (stM st0 W (ov i) (oh i)).fr)
    (hh : ∀ β, keepH β (ex (c.sub (LoopR c (fun i => stM st0 W (ov i) (oh i)) GI pre m j) k) o).st.hp (stM st0 W (ov i) (oh i)).hp = (stM st0 W (ov i) (oh i)).hp.map (HE.den β))
    (hl : Nat.ble (stM st0 W (ov i) (oh i)).hp.length (ex (c.sub (LoopR c (fun i => stM st0 W (ov i) (oh i)) GI pre m j) k) o).st.hp.length = true)
    (hp : pre i) (hlt : m i < m j) (ho : ∀ S w, Ext c.w0 w → G.p S w → (∀ p ∈ ov i, p.2.Ok st0.hp.length) ∧ ∀ p ∈ oh i, p.2.Ok st0.hp.length) (hg : ∀ S w, Ext c.w0 w → G.p S w → (GI i).p S w) :
    Run (c.sub (LoopR c (fun i => stM st0 W (ov i) (oh i)) GI pre m j) k) o G :=
  s_go hc.sub hv (t_again i he hp hlt (subS hf hh hl) (fun S w hw h => let ⟨h1, h2⟩ := ho S w hw h; stM_ok hso h1 h2) hg)
/-- The run leaves a part: by break, or by return. -/
theorem s_out {R : Fr → World → Prop} {k : List Kt} (hc : c.Ok) (hv : (ex (c.sub R k) o).vc = []) (he : isOut (ex (c.sub R k) o) = true) (h : Run c ⟨(ex (c.sub R k) o).cur, k, (ex (c.sub R k) o).st, []⟩ G) : Run (c.sub R k) o G := s_go hc.sub hv (t_out he h)
end
end Go.Proofs.YtpmnjjmngogkkaaGreatDoor
end

section
set_option linter.unusedVariables false
set_option linter.unusedSimpArgs false
namespace Go.Proofs.YtpmnjjmngogkkaaGreatDoor
open Go Go.RowKit
abbrev ratG (v : Value) (q : Rat) : Gh := ⟨fun S w => RatV S w v q, fun h k => h.keep k, fun h k => h.mono k⟩
abbrev intG (v : Value) (z : Int) : Gh := ⟨fun S w => IntV S 127 .u32 w v z, fun h k => h.keep k, fun h k => h.mono k⟩
abbrev zG (v : Value) (z : Int) : Gh := ⟨fun S w => ZV S w v z, fun h k => h.keep k, fun h k => h.mono k⟩
theorem RatV.ok {S : Nat → Prop} {w : World} {v : Value} {q : Rat} (h : RatV S w v q) : (SV.one (.ag 3 v)).Ok 0 := by
  obtain ⟨m, b, rfl, hm, hb⟩ := h
  exact ⟨[_, m, b], rfl, rfl, ones3 rfl hm.one hb.one⟩
theorem IntV.ok {S : Nat → Prop} {T : TypeId} {k : IntKind} {w : World} {v : Value} {z : Int} (h : IntV S T k w v z) : (SV.one (.ag 2 v)).Ok 0 := by
  obtain ⟨m, rfl, hm⟩ := h
  exact ⟨[_, m], rfl, rfl, ones2 rfl hm.one⟩
def tupN (v : Value) (i : Nat) : Value := match v with | .tuple l => l.getD i undef | _ => undef
abbrev iiG (v : Value) (a b : Int) : Gh := ⟨fun S w => v = .tuple #[tupN v 0, tupN v 1] ∧ IntV S 127 .u32 w (tupN v 0) a ∧ IntV S 127 .u32 w (tupN v 1) b, fun h k => ⟨h.1, h.2.1.keep k, h.2.2.keep k⟩, fun h k => ⟨h.1, h.2.1.mono k, h.2.2.mono k⟩⟩
theorem gK {P : Program} {f : FuncId} {args : List Value} {w : World} {X Y : Value} (h : Gives P f args w fun v w' => v = X ∧ Ext w w') (e : X = Y) : Gives P f args w fun v w' => v = Y ∧ Ext w w' := e ▸ h
/-- Two parts, three parts of a result. -/
abbrev pr (x y : Ch) : SV := .tup [(false, [x]), (false, [y])]
theorem ok_pr {m : Nat} {x y : Ch} (hx : x.Ok m) (hy : y.Ok m) : (pr x y).Ok m := fun p hp c hc => by
  simp only [List.mem_cons, List.not_mem_nil, or_false] at hp
  rcases hp with rfl | rfl <;> (simp only [List.mem_singleton] at hc; subst hc; assumption)
theorem iiG_ok {v : Value} {a b : Int} {S : Nat → Prop} {w : World} (h : (iiG v a b).p S w) : (pr (.ag 2 (tupN v 0)) (.ag 2 (tupN v 1))).Ok 0 ∧ (pr (.ag 2 (tupN v 0)) (.ag 2 (tupN v 1))).den (fun _ => 0) = v := ⟨ok_pr h.2.1.ok h.2.2.ok, h.1.symm⟩
def tupAt : Value → Value
  | .tuple l => l.getD 0 undef
  | _ => undef
abbrev tryG (v : Value) (q : Rat) (e : Int) : Gh := ⟨fun S w => v = .tuple #[tupAt v, .int .i64 e] ∧ RatV S w (tupAt v) q, fun h k => ⟨h.1, h.2.keep k⟩, fun h k => ⟨h.1, h.2.mono k⟩⟩
abbrev itryG (v : Value) (z : Int) (e : Int) : Gh := ⟨fun S w => v = .tuple #[tupAt v, .int .i64 e] ∧ IntV S 127 .u32 w (tupAt v) z, fun h k => ⟨h.1, h.2.keep k⟩, fun h k => ⟨h.1, h.2.mono k⟩⟩
theorem tryG_ok {v : Value} {q : Rat} {e : Int} {S : Nat → Prop} {w : World} (h : (tryG v q e).p S w) : (pr (.ag 3 (tupAt v)) (.lit .i64 e)).Ok 0 ∧ (pr (.ag 3 (tupAt v)) (.lit .i64 e)).den (fun _ => 0) = v := ⟨ok_pr h.2.ok trivial, h.1.symm⟩
theorem itryG_ok {v : Value} {q : Int} {e : Int} {S : Nat → Prop} {w : World} (h : (itryG v q e).p S w) : (pr (.ag 2 (tupAt v)) (.lit .i64 e)).Ok 0 ∧ (pr (.ag 2 (tupAt v)) (.lit .i64 e)).den (fun _ => 0) = v := ⟨ok_pr h.2.ok trivial, h.1.symm⟩
/-- A value and whether it is there. -/
abbrev bG (F : Value → Gh) (b : Bool) (v : Value) : Gh := ⟨fun S w => v = .tuple #[tupN v 0, .bool b] ∧ (F (tupN v 0)).p S w, fun h k => ⟨h.1, (F _).keep h.2 k⟩, fun h k => ⟨h.1, (F _).mono h.2 k⟩⟩
theorem bzG_ok {v : Value} {z : Int} {S : Nat → Prop} {w : World} (h : (bG (fun x => zG x z) true v).p S w) : (pr (.ag 2 (tupN v 0)) (.bb true)).Ok 0 ∧ (pr (.ag 2 (tupN v 0)) (.bb true)).den (fun _ => 0) = v := ⟨ok_pr h.2.ok trivial, h.1.symm⟩
section
variable {c : Cx} {o : Out} {G : Gh} {f : FuncId} [ci : CallI c.P f]
end
end Go.Proofs.YtpmnjjmngogkkaaGreatDoor
end

section
set_option linter.unusedVariables false
set_option linter.unusedSimpArgs false
namespace Go.Proofs.YtpmnjjmngogkkaaGreatDoor
open Go Go.RowKit
abbrev rowG (T : TypeId) (sz : Nat) (v : Value) (n : Nat) (cs : List Value) : Gh := ⟨fun S w => Row S T sz w v n cs, fun h k => h.keep k, fun h k => h.mono k⟩
def opAt (o : Out) : Option (Nat × Op) := match o.cur with | .ops _ (o1 :: _) => (match o1.guard, o1.dst with | none, some d => some (d, o1.op) | _, _ => none) | _ => none
def opNext (o : Out) (s : SV) (hp : List HE) : Out := match o.cur with | .ops all (o1 :: r) => ⟨.ops all r, o.k, ⟨(o1.dst.getD 0, s) :: o.st.fr, hp⟩, []⟩ | _ => o
section
variable {c : Cx} {o : Out} {G : Gh}
/-- An operation that gives a value, and leaves all blocks as they were. -/
theorem t_opv {α : Type} {d : Nat} {op : Op} (pat : α → SV) (Δ : α → Gh) (hop : opAt o = some (d, op))
    (h : ∀ β S w F ty, OpsKn β o.st.hp.length o.st.fr (ev F) op → Mem c.w0.heap.size o.st.hp β w → Up S w → (∀ k, S k → c.S0 k) → Ext c.w0 w → G.p S w → ∃ a w', Ext w w' ∧ (pat a).Ok o.st.hp.length ∧ (Δ a).p S w' ∧ RunV c.P (ev F) op ty w ((pat a).den β) ∧ w' = w)
    (hc : c.Ok) (hn : ∀ a, Run c (opNext o (pat a) o.st.hp) ((Δ a).and G)) : Run c o G := by
  refine ⟨fun β ρ w hS hw hG => ?_⟩
  unfold opAt at hop
  cases hcur : o.cur with
  | code x => rw [hcur] at hop; cases hop
  | ex e => rw [hcur] at hop; cases hop
  | ops all l =>
    cases l with
    | nil => rw [hcur] at hop; cases hop
    | cons o1 r =>
      rw [hcur] at hop
      obtain ⟨dst, op', ty, pos, aft, g⟩ := o1
      simp only at hop
      cases g with
      | some x => cases hop
      | none =>
        cases dst with
        | none => cases hop
        | some d' =>
          simp only [Option.some.injEq, Prod.mk.injEq] at hop
          obtain ⟨rfl, rfl⟩ := hop
          obtain ⟨a, w', hk, hok, hΔ, hr, rfl⟩ := h β _ w ρ ty (hS.ops _) hS.mem (Sof.up (hc.up.to hw) hS.mem) (fun k hk => hk.1) hw hG
          refine r_step rfl ?_
          unfold Stp
          rw [hr]
          have h1 := (hn a).run
          unfold opNext at h1
          rw [hcur] at h1
          exact h1 β _ w' (hS.put rfl hok) hw ⟨hΔ, hG⟩
/-- The address of an element of a slice. -/
def idxQ (E : Env) (o : Out) : Option (Value × Nat × Int × TypeId × Nat) :=
  match opAt o with
  | some (_, .indexAddr t x ix) => match opd o.st.fr x, opd o.st.fr ix, kindOf E t with
    | some (.one (.sl v n)), some (.one (.int _ i)), .slice e => (E.get e).map fun te => (v, n, i, e, te.size)
    | some (.one (.sl v n)), some (.one (.lit _ i)), .slice e => (E.get e).map fun te => (v, n, i, e, te.size)
    | _, _, _ => none
  | _ => none
theorem t_idx (v : Value) (n : Nat) (i : Int) (e : TypeId) (sz : Nat) (hq : idxQ c.E o = some (v, n, i, e, sz)) (hc : c.Ok) (h0 : 0 ≤ i) (h1 : i < n) (hrow : ∀ β S w, Mem c.w0.heap.size o.st.hp β w → Ext c.w0 w → G.p S w → ∃ S' cs, Row S' e sz w v n cs)
    (hn : Run c (opNext o (.one (.val (.pointer (some (adr v (i.toNat * sz)))))) o.st.hp) G) : Run c o G := by
  unfold idxQ at hq
  split at hq <;> first | (cases hq; done) | skip
  rename_i d t x ix hop
  have key : ∀ (ch : Ch) (kk : IntKind), (∀ β, ch.den β = .int kk i) → opd o.st.fr x = some (.one (.sl v n)) → opd o.st.fr ix = some (.one ch) → kindOf c.E t = .slice e → ∀ te, c.E.get e = some te → te.size = sz → Run c o G := by
    intro ch kk hch hx hi hk te hte hsz
    subst hsz
    refine t_opv (α := Unit) (fun _ => .one (.val (.pointer (some (adr v (i.toNat * te.size)))))) (fun _ => .nil) hop (fun β S w F ty hkn hM hup hS hw hG => ⟨(), w, .refl, rfl, trivial, ?_, rfl⟩) hc fun _ => t_facts (fun S w _ h => h.2) hn
    obtain ⟨S', cs, hr⟩ := hrow β S w hM hw hG
    have g1 := (hkn x (by simp [Op.operands]) _ hx).1
    have g2 := (hkn ix (by simp [Op.operands]) _ hi).1
    have hkd := kindOf_ok (t := t) hc.env
    rw [hk] at hkd
    have hkd' : c.P.underlying t = some (.slice e) := hkd
    obtain ⟨z, hty, _⟩ := (hc.env.get hte).ty
    intro d pos aft g
    rcases hr.2 with ⟨_, h2⟩ | ⟨gg, off, cap, arr, fr, hv2, _⟩
    · omega
    · have g1' : ev F x = .slice (some ⟨gg, off, none⟩) n cap := by rw [g1]; exact hv2
      have g2' : ev F ix = .int kk i := by rw [g2]; exact hch β
      simp [execOp, g1', g2', Instr.indexAt, asIntOf, run_underlying hkd', h0, h1, hty.runSize w, adr, hv2, add_addr, SV.den, Ch.den]
  split at hq <;> first | (cases hq; done) | skip
  · rename_i v' n' kk i' e' hx hi hk
    cases hte : c.E.get e' with
    | none => rw [hte] at hq; cases hq
    | some te =>
      rw [hte] at hq
      simp only [Option.map_some, Option.some.injEq, Prod.mk.injEq] at hq
      obtain ⟨rfl, rfl, rfl, rfl, hsz⟩ := hq
      exact key _ kk (fun β => rfl) hx hi hk te hte hsz
  · rename_i v' n' kk i' e' hx hi hk
    cases hte : c.E.get e' with
    | none => rw [hte] at hq; cases hq
    | some te =>
      rw [hte] at hq
      simp only [Option.map_some, Option.some.injEq, Prod.mk.injEq] at hq
      obtain ⟨rfl, rfl, rfl, rfl, hsz⟩ := hq
      exact key _ kk (fun β => rfl) hx hi hk te hte hsz
/-- A load from an element of a slice. -/
def ldQ (E : Env) (o : Out) : Option (Value × TypeId × Nat × Bool) :=
  match opAt o with
  | some (_, .load T x) => match opd o.st.fr x with
    | some (.one (.val p)) => (E.get T).map fun te => (p, T, te.size, te.agg)
    | _ => none
  | _ => none
end
end Go.Proofs.YtpmnjjmngogkkaaGreatDoor
end

section
set_option linter.unusedVariables false
set_option linter.unusedSimpArgs false
namespace Go.Proofs.YtpmnjjmngogkkaaGreatDoor
open Go Go.RowKit
section
variable {base : Nat} {st : St} {β : Nat → Nat} {ρ : Fr} {w w' : World} {d : Nat} {T : TypeId} {s n : Nat} {v : Value} {cs : List Value}
end
section
variable {c : Cx} {o : Out} {G : Gh}
def appQ (E : Env) (o : Out) : Option (Value × Nat × Ch × TypeId × Nat × Nat) :=
  match opAt o with
  | some (_, .call ⟨.builtin .append, args, ts⟩) => match args.toList, ts.toList with
    | [x, y], [t, t'] => match opd o.st.fr x, opd o.st.fr y, kindOf E t with
      | some (.one (.sl v n)), some (.one a), .slice e => (E.get e).bind fun te => bif Nat.beq t t' then some (v, n, a, e, te.size, te.bytes) else none
      | _, _, _ => none
    | _, _ => none
  | _ => none
/-- What comes behind, in more pieces. -/
def splitK : Nat → List Kt → List Kt
  | 0, k => k
  | n + 1, .code (.seq a b) :: k => .code a :: splitK n (.code b :: k)
  | _ + 1, k => k
def allCode : List Kt → Bool
  | [] => true
  | .code _ :: k => allCode k
  | _ => false
theorem kQ_split {P : Program} {n : Nat} {Q : Post} : ∀ {m : Nat} {k : List Kt} {e : Exit} {ρ : Fr} {w : World}, kQ P n Q (splitK m k) e ρ w → kQ P n Q k e ρ w := by
  intro m
  induction m with
  | zero => intro k e ρ w h; exact h
  | succ m ih =>
    intro k e ρ w h
    have key : ∀ {a b : Code} {k' : List Kt}, kQ P n Q (.code a :: splitK m (.code b :: k')) e ρ w → kQ P n Q (.code (.seq a b) :: k') e ρ w := by
      intro a b k' h
      cases e with
      | normal => exact wp_seq (wp_mono (Q := kQ P n Q (splitK m (.code b :: k'))) h fun e ρ w h => ih h)
      | _ => exact ih (k := .code b :: k') (e := _) h
    cases k with
    | nil => exact h
    | cons x r =>
      cases x with
      | blk i => exact h
      | lp a => exact h
      | code c =>
        cases c <;> first | exact key h | exact h
theorem kQ_app {P : Program} {n : Nat} {Q Q' : Post} {k2 : List Kt} (hq : ∀ e ρ w, Q' e ρ w → kQ P n Q k2 e ρ w) : ∀ {k1 : List Kt}, allCode k1 = true → ∀ {e : Exit} {ρ : Fr} {w : World}, kQ P n Q' k1 e ρ w → kQ P n Q (k1 ++ k2) e ρ w := by
  intro k1
  induction k1 with
  | nil => intro _ e ρ w h; exact hq e ρ w h
  | cons x r ih =>
    intro hk e ρ w h
    cases x with
    | code a =>
      cases e with
      | normal => exact wp_mono (Q := kQ P n Q' r) h fun e ρ w h => ih hk h
      | _ => exact ih (e := _) hk h
    | blk i => cases hk
    | lp a => cases hk
theorem t_midK {ι : Type} (m j : Nat) (st' : ι → St) (GI : ι → Gh) (pre : ι → Prop) (hk : allCode ((splitK m o.k).take j) = true) (h1 : Run (c.sub (MidR c st' GI pre) ((splitK m o.k).drop j)) ⟨o.cur, (splitK m o.k).take j, o.st, []⟩ G)
    (h2 : ∀ i, pre i → Run c ⟨.ex .normal, (splitK m o.k).drop j, st' i, []⟩ (GI i)) : Run c o G := by
  refine ⟨fun β ρ w hS hw hG => ?_⟩
  refine curX_mono (Q := kQ c.P c.n c.Q (splitK m o.k)) (fun e ρ w h => kQ_split h) ?_
  refine curX_mono ?_ (h1.run β ρ w hS hw hG)
  intro e ρ' w' hq
  have e1 : (splitK m o.k).take j ++ (splitK m o.k).drop j = splitK m o.k := List.take_append_drop ..
  rw [← e1]
  refine kQ_app ?_ hk hq
  intro e ρ' w' hq
  cases e with
  | normal =>
    obtain ⟨i, hp, β', hS', hw', hG'⟩ := hq
    exact (h2 i hp).run β' ρ' w' hS' hw' hG'
  | _ => exact hq
/-- The next j pieces of what lies ahead end in one of some states. -/
theorem s_midK {ι : Type} (m j : Nat) (W : List (Nat × Nat)) (ov : ι → List (Nat × SV)) (oh : ι → List (Nat × HE)) (GI : ι → Gh) (pre : ι → Prop) (hc : c.Ok) (hv : (ex c o).vc = []) (hk : allCode ((splitK m (ex c o).k).take j) = true)
    (h1 : StOk (ex c o).st → Run (c.sub (MidR c (fun i => stM (ex c o).st W (ov i) (oh i)) GI pre) ((splitK m (ex c o).k).drop j)) ⟨(ex c o).cur, (splitK m (ex c o).k).take j, (ex c o).st, []⟩ G)
    (h2 : ∀ i, pre i → Run c ⟨.ex .normal, (splitK m (ex c o).k).drop j, stM (ex c o).st W (ov i) (oh i), []⟩ (GI i)) : Run c o G := by
  refine s_go hc hv ⟨fun β ρ w hS hw hG => ?_⟩
  exact (t_midK m j _ GI pre hk (h1 hS.stOk) h2).run β ρ w hS hw hG
end
end Go.Proofs.YtpmnjjmngogkkaaGreatDoor
end

section
set_option linter.unusedVariables false
set_option linter.unusedSimpArgs false
namespace Go.Proofs.YtpmnjjmngogkkaaGreatDoor
open Go Go.RowKit
theorem aggOk : ∀ {m : Nat} {l : List Ch}, (l.foldr (fun c p => c.Ok m ∧ p) True) → (SV.agg l).Ok m := by
  intro m l
  induction l with
  | nil => intro _ c hc; cases hc
  | cons a r ih =>
    intro h c hc
    rcases List.mem_cons.1 hc with rfl | hc
    · exact h.1
    · exact ih h.2 c hc
/-- The cells at a pointer. -/
def At (S : Nat → Prop) (w : World) (u : Value) (cs : List Value) : Prop :=
  ∃ b o arr T fr, u = .pointer (some ⟨b, o, none⟩) ∧ S b ∧ w.heap[b]? = some (.cells arr T fr) ∧ o + cs.length ≤ arr.size ∧ (arr.toList.drop o).take cs.length = cs
theorem At.keep {S : Nat → Prop} {w w' : World} {u : Value} {cs : List Value} (h : At S w u cs) (k : Keeps S w w') : At S w' u cs := by
  obtain ⟨b, o, arr, T, fr, h1, h2, h3, h4, h5⟩ := h
  exact ⟨b, o, arr, T, fr, h1, h2, (k.block b (Array.getElem?_eq_some_iff.1 h3).1 h2).trans h3, h4, h5⟩
theorem At.mono {S S' : Nat → Prop} {w : World} {u : Value} {cs : List Value} (h : At S w u cs) (hs : ∀ k, k < w.heap.size → S k → S' k) : At S' w u cs := by
  obtain ⟨b, o, arr, T, fr, h1, h2, h3, h4, h5⟩ := h
  exact ⟨b, o, arr, T, fr, h1, hs b (Array.getElem?_eq_some_iff.1 h3).1 h2, h3, h4, h5⟩
theorem At.of_row {S : Nat → Prop} {T : TypeId} {s : Nat} {w : World} {v : Value} {n i : Nat} {cs : List Value} (h : Row S T s w v n cs) (hi : i < n) : At S w (.pointer (some (adr v (i * s)))) ((cs.drop (i * s)).take s) := by
  have h1 : (i + 1) * s ≤ n * s := Nat.mul_le_mul_right _ hi
  rw [Nat.add_mul, Nat.one_mul] at h1
  have hl : ((cs.drop (i * s)).take s).length = s := by rw [List.length_take, List.length_drop, h.1]; omega
  rcases h.2 with ⟨_, h2⟩ | ⟨b, off, cap, arr, fr, hv, h2, h3, h4, h5, h6, h7⟩
  · omega
  · subst hv
    have h8 : n * s ≤ cap * s := Nat.mul_le_mul_right _ h2
    refine ⟨b, off + i * s, arr, T, fr, rfl, h4, h5, by rw [hl]; omega, ?_⟩
    rw [hl, ← h7, List.drop_take, List.drop_drop, List.take_take]
    congr 1
    omega
theorem At.cell {S : Nat → Prop} {w : World} {u : Value} {cs : List Value} (h : At S w u cs) : ∃ b o, u = .pointer (some ⟨b, o, none⟩) ∧ ∀ i, i < cs.length → w.cell? ⟨b, o + i, none⟩ = cs[i]? := by
  obtain ⟨b, o, arr, T, fr, h1, h2, h3, h4, h5⟩ := h
  refine ⟨b, o, h1, fun i hi => ?_⟩
  simp only [World.cell?, h3]
  have h6 : cs[i]? = ((arr.toList.drop o).take cs.length)[i]? := by rw [h5]
  rw [h6, List.getElem?_take, if_pos hi, List.getElem?_drop]
  simp
/-- How a value lies: whole, or in its parts. -/
def Lies (g : Bool) (s : Nat) (x : Value) : Prop := x.cells.toList.length = s ∧ bif g then x = .agg x.cells else x.cells = #[x]
theorem lies_one {x : Value} (h : x.oneCell' = true) : Lies false 1 x := ⟨by rw [cells_one h]; rfl, cells_one h⟩
theorem At.load {P : Program} {T : TypeId} {s b : Nat} {z : Value} {g : Bool} {S : Nat → Prop} {w : World} {u x : Value} (hty : TyI P T s b z g) (h : At S w u x.cells.toList) (hx : Lies g s x) {ρ : Operand → Value} {ty : TypeId} {y : Operand} (hy : ρ y = u) : RunV P ρ (.load T y) ty w x := by
  obtain ⟨b', o, rfl, hc⟩ := h.cell
  obtain ⟨h1, h2⟩ := hx
  have hlv : (loadVar T ⟨b', o, none⟩).run P w = .ok x w := by
    cases g with
    | true =>
      simp only [cond_true] at h2
      have h3 := load_agg hty h1 hc
      rw [h3]
      congr 1
      rw [h2]
      simp [Value.cells]
    | false =>
      simp only [cond_false] at h2
      have h3 := hc 0 (by rw [h2]; simp)
      rw [h2] at h3
      exact load_one hty (by simpa using h3)
  intro d pos aft g'
  simp [execOp, hy, Instr.loadAt, Instr.sureAddr, hlv]
/-- A pointer to a value of which something is known. -/
abbrev atG (g : Bool) (s : Nat) (Δ : Value → Gh) (u : Value) : Gh :=
  ⟨fun S w => ∃ x, Lies g s x ∧ At S w u x.cells.toList ∧ (Δ x).p S w, fun ⟨x, h1, h2, h3⟩ k => ⟨x, h1, h2.keep k, (Δ x).keep h3 k⟩, fun ⟨x, h1, h2, h3⟩ k => ⟨x, h1, h2.mono k, (Δ x).mono h3 k⟩⟩
section
variable {α : Type} {g : Bool} {T : TypeId} {s : Nat} {F : Value → α → Gh} {S S' : Nat → Prop} {w w' : World} {v : Value} {l : List α}
end
/-- A fact without a world. -/
abbrev pureG (p : Prop) : Gh := ⟨fun _ _ => p, fun h _ => h, fun h _ => h⟩
theorem dig_el {T : TypeId} {S : Nat → Prop} {w : World} {v : Value} {l : List Nat} {kd : IntKind} (h : Row S T 1 w v l.length (l.map fun d : Nat => Value.int kd d)) {i : Int} {k n : Nat} {d : Int} (hn : n = l.length) (hi : i = (k : Int)) (hk : k < l.length) (hd : d = (l.getD k 0 : Nat)) :
    0 ≤ i ∧ i < n ∧ (∃ S' cs, Row S' T 1 w v n cs) ∧ (atG false 1 (fun x => pureG (x = .int kd d)) (.pointer (some (adr v (i.toNat * 1))))).p S w := by
  subst hi
  subst hn
  subst hd
  have h1 := At.of_row h hk
  have e : ((l.map fun d : Nat => Value.int kd d).drop (k * 1)).take 1 = [.int kd (l.getD k 0 : Nat)] := by
    rw [Nat.mul_one, List.drop_eq_getElem_cons (by simpa using hk), List.take_succ_cons, List.take_zero, List.getElem_map]
    simp [List.getD_eq_getElem?_getD, List.getElem?_eq_getElem hk]
  rw [e] at h1
  exact ⟨by omega, by omega, ⟨S, _, h⟩, .int kd (l.getD k 0 : Nat), lies_one rfl, h1, rfl⟩
theorem pure_ok {x v : Value} {s : SV} (h : x = v) (h1 : s.Ok 0) (h2 : s.den (fun _ => 0) = v) : s.Ok 0 ∧ s.den (fun _ => 0) = x := ⟨h1, h2.trans h.symm⟩
section
variable {c : Cx} {o : Out} {G : Gh}
/-- The address of an element, as a value of which something is known. -/
theorem t_at (v : Value) (n : Nat) (i : Int) (e : TypeId) (sz : Nat) (Δ : Value → Gh) (hq : idxQ c.E o = some (v, n, i, e, sz)) (hc : c.Ok)
    (h : ∀ β S w, Mem c.w0.heap.size o.st.hp β w → Ext c.w0 w → G.p S w → 0 ≤ i ∧ i < n ∧ (∃ S' cs, Row S' e sz w v n cs) ∧ (Δ (.pointer (some (adr v (i.toNat * sz))))).p S w)
    (hn : ∀ u, Run c (opNext o (.one (.val u)) o.st.hp) ((Δ u).and G)) : Run c o G := by
  refine ⟨fun β ρ w hS hw hG => ?_⟩
  have h1 := h β (Sof c.S0 β o.st.hp) w hS.mem hw hG
  refine (t_idx (G := (Δ (.pointer (some (adr v (i.toNat * sz))))).and G) v n i e sz hq hc h1.1 h1.2.1 (fun β S w hM hw hG => (h β S w hM hw hG.2).2.2.1) ?_).run β ρ w hS hw ⟨h1.2.2.2, hG⟩
  exact hn _
/-- A load of what is known. -/
theorem t_of (u : Value) (T : TypeId) (sz : Nat) (g : Bool) (pat : Value → SV) (Δ : Value → Gh) (hq : ldQ c.E o = some (u, T, sz, g)) (hc : c.Ok)
    (h : ∀ S w, Ext c.w0 w → G.p S w → (atG g sz Δ u).p S w) (hok : ∀ a S w, (Δ a).p S w → (pat a).Ok 0 ∧ (pat a).den (fun _ => 0) = a)
    (hn : ∀ a, Run c (opNext o (pat a) o.st.hp) ((Δ a).and G)) : Run c o G := by
  unfold ldQ at hq
  split at hq <;> first | (cases hq; done) | skip
  rename_i d T' x hop
  split at hq <;> first | (cases hq; done) | skip
  rename_i p hx
  cases hte : c.E.get T' with
  | none => rw [hte] at hq; cases hq
  | some te =>
    rw [hte] at hq
    simp only [Option.map_some, Option.some.injEq, Prod.mk.injEq] at hq
    obtain ⟨rfl, rfl, rfl, rfl⟩ := hq
    refine t_opv pat Δ hop (fun β S w F ty hkn hM hup hS hw hG => ?_) hc hn
    obtain ⟨a, h1, h2, h3⟩ := h S w hw hG
    obtain ⟨h4, h5⟩ := hok a S w h3
    have g1 : ev F x = p := (hkn x (by simp [Op.operands]) _ hx).1
    obtain ⟨z, hty, _⟩ := (hc.env.get hte).ty
    refine ⟨a, w, .refl, h4.le (Nat.zero_le _), h3, ?_, rfl⟩
    rw [SV.den_congr (m := 0) (β' := fun _ => 0) (fun i hi => absurd hi (Nat.not_lt_zero i)) h4, h5]
    exact h2.load hty h1 g1
end
section
variable {c : Cx} {st : St} {G : Gh} {all : List Oper} {K : List HRec → Prop} {acc : List HRec} {ops : List Oper}
def idxH (c : Cx) (st : St) (acc : List HRec) (ops : List Oper) (η : Nat → Value) : Option (Value × Nat × Int × TypeId × Nat) :=
  match (opH ops).op with
  | .indexAddr t x ix => match opd (frH st acc η) x, opd (frH st acc η) ix, kindOf c.E t with
    | some (.one (.sl v n)), some (.one (.int _ i)), .slice e => (c.E.get e).map fun te => (v, n, i, e, te.size)
    | some (.one (.sl v n)), some (.one (.lit _ i)), .slice e => (c.E.get e).map fun te => (v, n, i, e, te.size)
    | _, _, _ => none
  | _ => none
end
section
variable {c : Cx} {o : Out} {G : Gh}
def intAt (st : St) (d : Nat) : Option Int := match look st.fr d with | some (.one (.int .i64 z)) => some z | some (.one (.lit .i64 z)) => some z | _ => none
theorem t_setI (d : Nat) (a b : Int) (hq : intAt o.st d = some a) (h : a = b) (k : Run c (setSlot o d (.one (.int .i64 b))) G) : Run c o G := by
  subst h
  refine t_set d (.one (.int .i64 a)) (fun β => ?_) trivial k
  unfold intAt at hq
  split at hq <;> first | (cases hq; done) | skip
  all_goals
    rename_i z hl
    simp only [Option.some.injEq] at hq
    subst hq
    unfold slotV
    rw [hl]
    rfl
end
section
variable {c : Cx} {o : Out} {G : Gh}
/-- The first bytes of a string. -/
def cutQ (E : Env) (o : Out) : Option (List UInt8 × Int) :=
  match opAt o with
  | some (_, .slice T x none (some hi) none) => match opd o.st.fr x, opd o.st.fr hi, kindOf E T with
    | some (.one (.str l)), some (.one (.int _ i)), .str => some (l, i)
    | some (.one (.str l)), some (.one (.lit _ i)), .str => some (l, i)
    | _, _, _ => none
  | _ => none
theorem t_cutS (l : List UInt8) (k : Nat) (hq : cutQ c.E o = some (l, (k : Int))) (hc : c.Ok) (hk : k ≤ l.length) (hn : Run c (opNext o (.one (.str (l.take k))) o.st.hp) G) : Run c o G := by
  unfold cutQ at hq
  split at hq <;> first | (cases hq; done) | skip
  rename_i d T x hi hop
  have key : ∀ (ch : Ch) (kk : IntKind), (∀ β, ch.den β = .int kk (k : Int)) → opd o.st.fr x = some (.one (.str l)) → opd o.st.fr hi = some (.one ch) → kindOf c.E T = .str → Run c o G := by
    intro ch kk hch hx hi' hkT
    refine t_opv (α := Unit) (fun _ => .one (.str (l.take k))) (fun _ => .nil) hop (fun β S w F ty hkn hM hup hS hw hG => ⟨(), w, .refl, trivial, trivial, ?_, rfl⟩) hc fun _ => t_facts (fun S w _ h => h.2) hn
    have g1 : ev F x = strV l := (hkn x (by simp [Op.operands]) _ hx).1
    have g2 : ev F hi = .int kk (k : Int) := (hkn hi (by simp [Op.operands]) _ hi').1.trans (hch β)
    have hkd := kindOf_ok (t := T) hc.env
    rw [hkT] at hkd
    have hkd' : c.P.underlying T = some .string := hkd
    have h1 := size_str l
    have h2 := extract_str l 0 k hk
    rw [List.drop_zero] at h2
    intro d' pos aft g
    simp [execOp, g1, g2, Instr.sliceAt, Instr.slice, Instr.sliceBounds, Instr.sliceBound, asIntOf, run_underlying hkd', h1, hk, h2, SV.den, Ch.den]
  split at hq <;> first | (cases hq; done) | skip
  · simp only [Option.some.injEq, Prod.mk.injEq] at hq
    obtain ⟨rfl, rfl⟩ := hq
    exact key _ _ (fun β => rfl) (by assumption) (by assumption) (by assumption)
  · simp only [Option.some.injEq, Prod.mk.injEq] at hq
    obtain ⟨rfl, rfl⟩ := hq
    exact key _ _ (fun β => rfl) (by assumption) (by assumption) (by assumption)
end
end Go.Proofs.YtpmnjjmngogkkaaGreatDoor
end

section
set_option linter.unusedVariables false
set_option linter.unusedSimpArgs false
namespace Go.Proofs.YtpmnjjmngogkkaaGreatDoor
open Go Go.RowKit
theorem iover_g {S : Nat → Prop} {w : World} {va vb : Value} {a b : Int} (hS : Up S w) (ha : IntV S 127 .u32 w va a) (hb : IntV S 127 .u32 w vb b) (hla : zl a ≤ 1099511626000) (hlb : zl b ≤ 1099511626000) (hb0 : b ≠ 0) :
    Gives Tryz.prog 101 [va, vb] w fun v' w' => Ext w w' ∧ (iiG v' (a / b) (a % b)).p S w' :=
  Calls.mono (iover_c hS ha hb hla hlb hb0) fun e w' ⟨v, he, vq, vr, h1, h2, h3, h4⟩ => ⟨v, he, h2, by subst h1; exact ⟨rfl, h3, h4⟩⟩
set_option maxRecDepth 100000 in
set_option maxHeartbeats 1000000 in
theorem rfloor_c {S : Nat → Prop} {w : World} {v : Value} {q : Rat} (hS : Up S w) (h : RatV S w v q) (hl : rl q 400000000000) :
    Gives Tryz.prog 65 [v] w fun v' w' => Ext w w' ∧ IntV S 127 .u32 w' v' (q.num / (q.den : Int)) := by
  have h0 := h
  obtain ⟨m, b, rfl, hm, hb⟩ := h
  have hi : IntV S 127 .u32 w (.agg #[.bool (tst (q.num < 0)), m]) q.num := ⟨m, rfl, hm⟩
  have hd0 : (q.den : Int) ≠ 0 := by have := q.den_pos; omega
  have hl1 : zl q.num ≤ 1099511626000 := Nat.le_trans hl.1 (by decide)
  have hl2 : zl (q.den : Int) ≤ 1099511626000 := Nat.le_trans hl.2 (by decide)
  refine t_gives (E := env) (S0 := S) (G := ((ratG (.agg #[.bool (tst (q.num < 0)), m, b]) q).and (intG (.agg #[.bool (tst (q.num < 0)), m]) q.num))) (l := [.agg [.tp (q.num < 0), .val m, .val b]]) Tryz.func65 rfl rfl rfl ⟨aggOk ⟨trivial, hm.one, hb.one, trivial⟩, trivial⟩ rfl ⟨h0, hi⟩ ?_
  refine s_drawn 12 ⟨env_ok, hS⟩ (by kernel_rfl) (by kernel_rfl) (by kernel_rfl) ?_
  refine hd_run 3 (fun η => (by kernel_rfl)) ?_
  refine h_1 (fun x0 => .one (.ag 2 x0)) (fun x0 => intG x0 ((q.den : Int))) (fun η => (by kernel_rfl)) (fun _ _ _ h => ⟨h.ok, rfl⟩) (fun β η S w hS hs hw hG hd => have h0 := hG.1; ⟨_, (by kernel_rfl), rden_c hS h0⟩) ?_
  refine h_1 (fun x0 => pr (.ag 2 (tupN x0 0)) (.ag 2 (tupN x0 1))) (fun x0 => iiG x0 ((q.num / (q.den : Int))) ((q.num % (q.den : Int)))) (fun η => (by kernel_rfl)) (fun _ _ _ h => iiG_ok h) (fun β η S w hS hs hw hG hd => have hi := hG.2; ⟨_, (by kernel_rfl), iover_g hS hi (dep hd 3 (by kernel_rfl) (by kernel_rfl) : (intG (η 3) ((q.den : Int))).p S w) hl1 hl2 hd0⟩) ?_
  refine hd_run 7 (fun η => (by kernel_rfl)) ?_
  refine hd_done (fun η => ((iiG (η 4) ((q.num / (q.den : Int))) ((q.num % (q.den : Int)))).and ((intG (η 3) ((q.den : Int))).and ((ratG (.agg #[.bool (tst (q.num < 0)), m, b]) q).and (intG (.agg #[.bool (tst (q.num < 0)), m]) q.num))))) (by kernel_rfl) (fun η => (by kernel_rfl)) ?_
  intro η_1
  exact s_ret (tupN (η_1 4) 0) ⟨env_ok, hS⟩ (by kernel_rfl) rfl (by kernel_rfl) (fun β => (by kernel_rfl)) (fun S w hs hw hG => have hp := hG.1; ⟨hw, hp.2.1.mono fun k _ hk => hs k hk⟩)
end Go.Proofs.YtpmnjjmngogkkaaGreatDoor
end

section
set_option linter.unusedVariables false
set_option linter.unusedSimpArgs false
namespace Go.Proofs.YtpmnjjmngogkkaaGreatDoor
open Go Go.RowKit
theorem ndrop_step (l : List Nat) (j : Nat) (h : j < l.length) : nval (l.drop j) = l.getD j 0 + 1000000000 * nval (l.drop (j + 1)) := by
  rw [List.drop_eq_getElem_cons h]
  show nval (_ :: _) = _
  rw [List.getD_eq_getElem?_getD, List.getElem?_eq_getElem h]
  rfl
theorem ndrop_le (l : List Nat) : ∀ j, nval (l.drop j) ≤ nval l := by
  intro j
  induction j with
  | zero => rw [List.drop_zero]; exact Nat.le_refl _
  | succ j ih =>
    by_cases h : j < l.length
    · have := ndrop_step l j h; omega
    · rw [List.drop_of_length_le (by omega)]; exact Nat.zero_le _
set_option maxRecDepth 100000 in
set_option maxHeartbeats 2000000 in
theorem zint64_c {S : Nat → Prop} {w : World} {v : Value} {z : Int} (hS : Up S w) (h : ZV S w v z) (hl : zl z ≤ 15999999999999) :
    Gives Tryz.prog 57 [v] w fun v' w' => v' = .tuple #[.int .i64 (if I64 z then z else 0), .bool (tst (I64 z))] ∧ Ext w w' := by
  have h0 := h
  obtain ⟨m, rfl, hm⟩ := h
  have l1 : zl 9223372036854775807 ≤ 3 := dl_le (by decide)
  have l2 : zl (-9223372036854775808) ≤ 3 := dl_le (by decide)
  obtain ⟨n, hn⟩ : ∃ n, n = z.natAbs := ⟨_, rfl⟩
  rw [← hn] at hm
  refine t_gives (E := env) (S0 := S) (G := ((zG (.agg #[.bool (tst (z < 0)), m]) z).and (rowG 3 1 m (dg n).length ((dg n).map fun d : Nat => Value.int .i64 d)))) (l := [.agg [.tp (z < 0), .sl m (dg n).length]]) Tryz.func57 rfl rfl rfl ⟨aggOk ⟨trivial, hm.slice, trivial⟩, trivial⟩ rfl ⟨h0, hm⟩ ?_
  by_cases hhi : 9223372036854775807 < z
  · have hz : ¬ I64 z := fun h => by unfold I64 at h; omega
    refine s_drawn 10 ⟨env_ok, hS⟩ (by kernel_rfl) (by kernel_rfl) (by kernel_rfl) ?_
    refine hd_run 1 (fun η => (by kernel_rfl)) ?_
    refine h_1 (fun x0 => .one (.ag 2 x0)) (fun x0 => zG x0 (9223372036854775807)) (fun η => (by kernel_rfl)) (fun _ _ _ h => ⟨h.ok, rfl⟩) (fun β η S w hS hs hw hG hd => ⟨_, (by kernel_rfl), zof_c hS (by decide) (by decide)⟩) ?_
    refine h_K (.one (.int .i64 (z - 9223372036854775807).sign)) (fun η => (by kernel_rfl)) (svB_ok rfl) rfl (fun β η S w hS hs hw hG hd => have h0 := hG.1; ⟨_, (by kernel_rfl), zcmp_c hS h0 (dep hd 1 (by kernel_rfl) (by kernel_rfl) : (zG (η 1) (9223372036854775807)).p S w) (by omega) (by omega)⟩) ?_
    refine hd_tst (p := 0 < (z - 9223372036854775807).sign) true (fun η => (by kernel_rfl)) (fun η => (by kernel_rfl)) (fun η => (by kernel_rfl)) ⟨fun _ => rfl, fun _ => Int.sign_pos_iff.2 (by omega)⟩ ?_
    refine hd_run 6 (fun η => (by kernel_rfl)) ?_
    refine hd_done (fun η => ((Gh.nil).and ((zG (η 1) (9223372036854775807)).and ((zG (.agg #[.bool (tst (z < 0)), m]) z).and (rowG 3 1 m (dg n).length ((dg n).map fun d : Nat => Value.int .i64 d)))))) (by kernel_rfl) (fun η => (by kernel_rfl)) ?_
    intro η_1
    exact s_ret (.tuple #[.int .i64 0, .bool false]) ⟨env_ok, hS⟩ (by kernel_rfl) rfl (by kernel_rfl) (fun β => (by kernel_rfl)) (fun S w hs hw hG => ⟨by rw [if_neg hz, tst_false hz], hw⟩)
  · by_cases hlo : z < -9223372036854775808
    · have hz : ¬ I64 z := fun h => by unfold I64 at h; omega
      refine s_drawn 10 ⟨env_ok, hS⟩ (by kernel_rfl) (by kernel_rfl) (by kernel_rfl) ?_
      refine hd_run 1 (fun η => (by kernel_rfl)) ?_
      refine h_1 (fun x0 => .one (.ag 2 x0)) (fun x0 => zG x0 (9223372036854775807)) (fun η => (by kernel_rfl)) (fun _ _ _ h => ⟨h.ok, rfl⟩) (fun β η S w hS hs hw hG hd => ⟨_, (by kernel_rfl), zof_c hS (by decide) (by decide)⟩) ?_
      refine h_K (.one (.int .i64 (z - 9223372036854775807).sign)) (fun η => (by kernel_rfl)) (svB_ok rfl) rfl (fun β η S w hS hs hw hG hd => have h0 := hG.1; ⟨_, (by kernel_rfl), zcmp_c hS h0 (dep hd 1 (by kernel_rfl) (by kernel_rfl) : (zG (η 1) (9223372036854775807)).p S w) (by omega) (by omega)⟩) ?_
      refine hd_tst (p := 0 < (z - 9223372036854775807).sign) false (fun η => (by kernel_rfl)) (fun η => (by kernel_rfl)) (fun η => (by kernel_rfl)) ⟨fun h => absurd h (fun h => by have := Int.sign_pos_iff.1 h; omega), fun h => by cases h⟩ ?_
      refine hd_run 2 (fun η => (by kernel_rfl)) ?_
      refine h_1 (fun x0 => .one (.ag 2 x0)) (fun x0 => zG x0 ((-9223372036854775808))) (fun η => (by kernel_rfl)) (fun _ _ _ h => ⟨h.ok, rfl⟩) (fun β η S w hS hs hw hG hd => ⟨_, (by kernel_rfl), zof_c hS (by decide) (by decide)⟩) ?_
      refine h_K (.one (.int .i64 (z - -9223372036854775808).sign)) (fun η => (by kernel_rfl)) (svB_ok rfl) rfl (fun β η S w hS hs hw hG hd => have h0 := hG.1; ⟨_, (by kernel_rfl), zcmp_c hS h0 (dep hd 6 (by kernel_rfl) (by kernel_rfl) : (zG (η 6) ((-9223372036854775808))).p S w) (by omega) (by omega)⟩) ?_
      refine hd_tst (p := (z - -9223372036854775808).sign < 0) true (fun η => (by kernel_rfl)) (fun η => (by kernel_rfl)) (fun η => (by kernel_rfl)) ⟨fun _ => rfl, fun _ => Int.sign_neg_iff.2 (by omega)⟩ ?_
      refine hd_run 1 (fun η => (by kernel_rfl)) ?_
      refine hd_done (fun η => ((Gh.nil).and ((zG (η 6) ((-9223372036854775808))).and ((Gh.nil).and ((zG (η 1) (9223372036854775807)).and ((zG (.agg #[.bool (tst (z < 0)), m]) z).and (rowG 3 1 m (dg n).length ((dg n).map fun d : Nat => Value.int .i64 d)))))))) (by kernel_rfl) (fun η => (by kernel_rfl)) ?_
      intro η_1
      exact s_ret (.tuple #[.int .i64 0, .bool false]) ⟨env_ok, hS⟩ (by kernel_rfl) rfl (by kernel_rfl) (fun β => (by kernel_rfl)) (fun S w hs hw hG => ⟨by rw [if_neg hz, tst_false hz], hw⟩)
    · have hz : I64 z := by unfold I64; omega
      refine s_drawn 10 ⟨env_ok, hS⟩ (by kernel_rfl) (by kernel_rfl) (by kernel_rfl) ?_
      refine hd_run 1 (fun η => (by kernel_rfl)) ?_
      refine h_1 (fun x0 => .one (.ag 2 x0)) (fun x0 => zG x0 (9223372036854775807)) (fun η => (by kernel_rfl)) (fun _ _ _ h => ⟨h.ok, rfl⟩) (fun β η S w hS hs hw hG hd => ⟨_, (by kernel_rfl), zof_c hS (by decide) (by decide)⟩) ?_
      refine h_K (.one (.int .i64 (z - 9223372036854775807).sign)) (fun η => (by kernel_rfl)) (svB_ok rfl) rfl (fun β η S w hS hs hw hG hd => have h0 := hG.1; ⟨_, (by kernel_rfl), zcmp_c hS h0 (dep hd 1 (by kernel_rfl) (by kernel_rfl) : (zG (η 1) (9223372036854775807)).p S w) (by omega) (by omega)⟩) ?_
      refine hd_tst (p := 0 < (z - 9223372036854775807).sign) false (fun η => (by kernel_rfl)) (fun η => (by kernel_rfl)) (fun η => (by kernel_rfl)) ⟨fun h => absurd h (fun h => by have := Int.sign_pos_iff.1 h; omega), fun h => by cases h⟩ ?_
      refine hd_run 2 (fun η => (by kernel_rfl)) ?_
      refine h_1 (fun x0 => .one (.ag 2 x0)) (fun x0 => zG x0 ((-9223372036854775808))) (fun η => (by kernel_rfl)) (fun _ _ _ h => ⟨h.ok, rfl⟩) (fun β η S w hS hs hw hG hd => ⟨_, (by kernel_rfl), zof_c hS (by decide) (by decide)⟩) ?_
      refine h_K (.one (.int .i64 (z - -9223372036854775808).sign)) (fun η => (by kernel_rfl)) (svB_ok rfl) rfl (fun β η S w hS hs hw hG hd => have h0 := hG.1; ⟨_, (by kernel_rfl), zcmp_c hS h0 (dep hd 6 (by kernel_rfl) (by kernel_rfl) : (zG (η 6) ((-9223372036854775808))).p S w) (by omega) (by omega)⟩) ?_
      refine hd_tst (p := (z - -9223372036854775808).sign < 0) false (fun η => (by kernel_rfl)) (fun η => (by kernel_rfl)) (fun η => (by kernel_rfl)) ⟨fun h => absurd h (fun h => by have := Int.sign_neg_iff.1 h; omega), fun h => by cases h⟩ ?_
      refine hd_run 1 (fun η => (by kernel_rfl)) ?_
      refine hd_done (fun η => ((Gh.nil).and ((zG (η 6) ((-9223372036854775808))).and ((Gh.nil).and ((zG (η 1) (9223372036854775807)).and ((zG (.agg #[.bool (tst (z < 0)), m]) z).and (rowG 3 1 m (dg n).length ((dg n).map fun d : Nat => Value.int .i64 d)))))))) (by kernel_rfl) (fun η => (by kernel_rfl)) ?_
      intro η_1
      have hnil : nval ((dg n).drop (dg n).length) = 0 := by rw [List.drop_of_length_le (Nat.le_refl _)]; rfl
      have hnn : nval (dg n) = n := nval_dg n
      have hmx := hm.len_le
      unfold maxLen at hmx
      obtain ⟨e, he, hen⟩ : ∃ e : Int, (e = if z < 0 then -1 else 1) ∧ e * (n : Int) = z := ⟨_, rfl, by split <;> omega⟩
      refine s_vc (ps := [InR .i64 (((dg n).length : Int) - 1)]) ⟨env_ok, hS⟩ (by kernel_rfl) (by have := hm.len_le; unfold maxLen at this; simp only [AllT, InR, and_true]; omega) ?_
      refine s_go ⟨env_ok, hS⟩ (by kernel_rfl) (t_setI 4 (0) (e * (nval ((dg n).drop (dg n).length) : Int)) (by kernel_rfl) (by rw [hnil]; simp) ?_)
      refine s_loop (ι := Nat) [(4, 5), (20, 41)] (fun k => [(4, .one (.int .i64 (e * (nval ((dg n).drop k) : Int)))), (5, .one (.int .i64 ((k : Int) - 1)))]) (fun _ => []) (fun k => ((Gh.nil).and ((zG (η_1 6) ((-9223372036854775808))).and ((Gh.nil).and ((zG (η_1 1) (9223372036854775807)).and ((zG (.agg #[.bool (tst (z < 0)), m]) z).and (rowG 3 1 m (dg n).length ((dg n).map fun d : Nat => Value.int .i64 d)))))))) (fun k => k ≤ (dg n).length) (fun k => k) ((dg n).length) ⟨env_ok, hS⟩ (by kernel_rfl) (by kernel_rfl) (fun β => (by kernel_rfl)) (fun β => (by kernel_rfl)) (by kernel_rfl) (Nat.le_refl _) (fun S w hw hG => ⟨ov_free rfl, fun p hp => by cases hp⟩) (fun S w hw hG => hG) (fun hso k hk => ?_)
      refine s_if (p := (0 : Int) ≤ (k : Int) - 1) ⟨env_ok, hS⟩ (by kernel_rfl) (by kernel_rfl) (by kernel_rfl) (fun hc => ?_) (fun hc => ?_)
      · obtain ⟨i, rfl⟩ : ∃ i, k = i + 1 := ⟨k - 1, by omega⟩
        have hd1 := ndrop_step (dg n) i (by omega)
        have hd2 := ndrop_le (dg n) i
        rw [hnn] at hd2
        have hdd := dg_lt n i
        by_cases hneg : z < 0
        · rw [if_pos hneg] at he
          subst he
          refine s_yes (p := z < 0) ⟨env_ok, hS⟩ (by kernel_rfl) (by kernel_rfl) (by kernel_rfl) (hneg) ?_
          refine s_vc (ps := [InR .i64 (-1 * (nval ((dg n).drop (i + 1)) : Int) * 1000000000)]) ⟨env_ok, hS⟩ (by kernel_rfl) (by simp only [AllT, InR, and_true]; omega) ?_
          refine s_go ⟨env_ok, hS⟩ (by kernel_rfl) (t_at m (dg n).length (((i + 1 : Nat) : Int) - 1) 3 1 (fun u0 => atG false 1 (fun x0 => pureG (x0 = .int .i64 (((dg n).getD i 0 : Nat)))) u0) (by kernel_rfl) ⟨env_ok, hS⟩ (fun β S w hM hw hG => have hm := hG.2.2.2.2.2; dig_el hm rfl (by omega) (by omega) rfl) ?_)
          intro u_2
          refine s_go ⟨env_ok, hS⟩ (by kernel_rfl) (t_of u_2 3 1 false (fun x0 => .one (.int .i64 (((dg n).getD i 0 : Nat)))) (fun x0 => pureG (x0 = .int .i64 (((dg n).getD i 0 : Nat)))) (by kernel_rfl) ⟨env_ok, hS⟩ (fun S w hw hG => hG.1) (fun _ _ _ h => pure_ok h trivial rfl) ?_)
          intro x
          refine s_vc (ps := [InR .i64 (((i + 1 : Nat) : Int) - 1 - 1), InR .i64 (-1 * (nval ((dg n).drop (i + 1)) : Int) * 1000000000 - ((dg n).getD i 0 : Nat))]) ⟨env_ok, hS⟩ (by kernel_rfl) (by simp only [AllT, InR, and_true]; omega) ?_
          refine s_go ⟨env_ok, hS⟩ (by kernel_rfl) (t_setI 4 (-1 * (nval ((dg n).drop (i + 1)) : Int) * 1000000000 - ((dg n).getD i 0 : Nat)) (-1 * (nval ((dg n).drop i) : Int)) (by kernel_rfl) (by omega) ?_)
          refine s_go ⟨env_ok, hS⟩ (by kernel_rfl) (t_setI 5 (((i + 1 : Nat) : Int) - 1 - 1) ((i : Int) - 1) (by kernel_rfl) (by omega) ?_)
          exact s_again (i) ⟨env_ok, hS⟩ hso (by kernel_rfl) (by kernel_rfl) (fun β => (by kernel_rfl)) (fun β => (by kernel_rfl)) (by kernel_rfl) (by omega) (by omega) (fun S w hw hG => ⟨ov_free rfl, fun p hp => by cases hp⟩) (fun S w hw hG => hG.2.2)
        · rw [if_neg hneg] at he
          subst he
          refine s_no (p := z < 0) ⟨env_ok, hS⟩ (by kernel_rfl) (by kernel_rfl) (by kernel_rfl) (hneg) ?_
          refine s_vc (ps := [InR .i64 (1 * (nval ((dg n).drop (i + 1)) : Int) * 1000000000)]) ⟨env_ok, hS⟩ (by kernel_rfl) (by simp only [AllT, InR, and_true]; omega) ?_
          refine s_go ⟨env_ok, hS⟩ (by kernel_rfl) (t_at m (dg n).length (((i + 1 : Nat) : Int) - 1) 3 1 (fun u0 => atG false 1 (fun x0 => pureG (x0 = .int .i64 (((dg n).getD i 0 : Nat)))) u0) (by kernel_rfl) ⟨env_ok, hS⟩ (fun β S w hM hw hG => have hm := hG.2.2.2.2.2; dig_el hm rfl (by omega) (by omega) rfl) ?_)
          intro u_2
          refine s_go ⟨env_ok, hS⟩ (by kernel_rfl) (t_of u_2 3 1 false (fun x0 => .one (.int .i64 (((dg n).getD i 0 : Nat)))) (fun x0 => pureG (x0 = .int .i64 (((dg n).getD i 0 : Nat)))) (by kernel_rfl) ⟨env_ok, hS⟩ (fun S w hw hG => hG.1) (fun _ _ _ h => pure_ok h trivial rfl) ?_)
          intro x
          refine s_vc (ps := [InR .i64 (((i + 1 : Nat) : Int) - 1 - 1), InR .i64 (1 * (nval ((dg n).drop (i + 1)) : Int) * 1000000000 + ((dg n).getD i 0 : Nat))]) ⟨env_ok, hS⟩ (by kernel_rfl) (by simp only [AllT, InR, and_true]; omega) ?_
          refine s_go ⟨env_ok, hS⟩ (by kernel_rfl) (t_setI 4 (1 * (nval ((dg n).drop (i + 1)) : Int) * 1000000000 + ((dg n).getD i 0 : Nat)) (1 * (nval ((dg n).drop i) : Int)) (by kernel_rfl) (by omega) ?_)
          refine s_go ⟨env_ok, hS⟩ (by kernel_rfl) (t_setI 5 (((i + 1 : Nat) : Int) - 1 - 1) ((i : Int) - 1) (by kernel_rfl) (by omega) ?_)
          exact s_again (i) ⟨env_ok, hS⟩ hso (by kernel_rfl) (by kernel_rfl) (fun β => (by kernel_rfl)) (fun β => (by kernel_rfl)) (by kernel_rfl) (by omega) (by omega) (fun S w hw hG => ⟨ov_free rfl, fun p hp => by cases hp⟩) (fun S w hw hG => hG.2.2)
      · refine s_out ⟨env_ok, hS⟩ (by kernel_rfl) (by kernel_rfl) ?_
        obtain rfl : k = 0 := by omega
        exact s_ret (.tuple #[.int .i64 (e * (nval ((dg n).drop 0) : Int)), .bool true]) ⟨env_ok, hS⟩ (by kernel_rfl) rfl (by kernel_rfl) (fun β => (by kernel_rfl)) (fun S w hs hw hG => ⟨by rw [if_pos hz, tst_true hz, List.drop_zero, hnn, hen], hw⟩)
end Go.Proofs.YtpmnjjmngogkkaaGreatDoor
end

section
set_option linter.unusedVariables false
set_option linter.unusedSimpArgs false
namespace Go.Proofs.YtpmnjjmngogkkaaGreatDoor
open Go Go.RowKit
def zTri : Tri := (.bool false, .slice none 0 0, .slice none 0 0)
theorem zTri_rat {S : Nat → Prop} {w : World} : RatV S w zTri.val 0 := zero_rat
theorem made_flat (a b c : Value) (n : Nat) : (madeCells #[a, b, c] (n * 3)).toList = flat (List.replicate n (a, b, c)) := by
  have key : ∀ n, (List.range (n * 3)).map (fun i => (#[a, b, c] : Array Value)[i % 3]!) = flat (List.replicate n (a, b, c)) := by
    intro n
    induction n with
    | zero => rfl
    | succ n ih =>
      rw [show (n + 1) * 3 = n * 3 + 1 + 1 + 1 by omega, List.range_succ, List.range_succ, List.range_succ, List.map_append, List.map_append, List.map_append, ih, List.replicate_succ', flat_append]
      have e0 : n * 3 % 3 = 0 := by omega
      have e1 : (n * 3 + 1) % 3 = 1 := by omega
      have e2 : (n * 3 + 1 + 1) % 3 = 2 := by omega
      simp [e0, e1, e2, flat]
  rw [← key n]
  simp [madeCells]
theorem rl_le {q : Rat} {n : Nat} (hn : 0 < n) (h1 : q.num.natAbs ≤ 1) (h2 : q.den ≤ 1) : rl q n := by
  have h : ∀ a, a ≤ 1 → dl a ≤ n := fun a ha => Nat.le_trans (dl_le (k := 1) (by omega)) hn
  exact ⟨h _ h1, h _ h2⟩
theorem rl_zero : rl 0 400000000000 := rl_le (by decide) (by decide) (by decide)
theorem rl_one {n : Nat} (hn : 0 < n) : rl ((1 : Int) : Rat) n := rl_le hn (by decide) (by decide)
theorem take_eq : takeL ((1 : Int) : Rat) [0, 0, 0 + ((1 : Int) : Rat), 0] [-1, -1, ((1 : Int) : Rat), - (-1)] = [1, 1, 0, -1] := by decide +kernel
theorem small_d : ∀ q ∈ ([0, 0, 0 + ((1 : Int) : Rat), 0] : List Rat), rl q 100000000000 := by
  intro q hq
  have h : ([0, 0, 0 + ((1 : Int) : Rat), 0] : List Rat).all (fun q => decide (q.num.natAbs ≤ 1) && decide (q.den ≤ 1)) = true := by decide +kernel
  have := List.all_eq_true.1 h q hq
  simp only [Bool.and_eq_true, decide_eq_true_eq] at this
  exact rl_le (by decide) this.1 this.2
theorem small_f : ∀ q ∈ ([-1, -1, ((1 : Int) : Rat), - (-1)] : List Rat), rl q 100000000000 := by
  intro q hq
  have h : ([-1, -1, ((1 : Int) : Rat), - (-1)] : List Rat).all (fun q => decide (q.num.natAbs ≤ 1) && decide (q.den ≤ 1)) = true := by decide +kernel
  have := List.all_eq_true.1 h q hq
  simp only [Bool.and_eq_true, decide_eq_true_eq] at this
  exact rl_le (by decide) this.1 this.2
theorem columns_c {w : World} {gl gr m cap : Nat} (hl : Blk w gl 95 [.slice (some ⟨gr, 0, none⟩) m cap]) :
    Gives Tryz.prog 123 [.slice (some ⟨gl, 0, none⟩) 1 1] w fun v' w' => v' = .int .i64 m ∧ w' = w := by
  refine gives_of Tryz.func123 rfl rfl rfl ?_
  repeat (first | refine r_load_blk rfl hl rfl ?_ | refine wp_seq_region ?_ | refine wp_seq_seq ?_ | refine wp_region ?_ | refine r_move (by conv => (lhs; whnf)) ?_ | refine r_assign (by conv => (lhs; whnf)) ?_ | refine r_nil ?_ | refine q_then ?_ | refine wp_ret ?_ | refine wp_skip ?_ | refine r_len_sl rfl ?_ | refine r_eql rfl rfl ?_ | refine r_index_sl rfl rfl (by omega) (by omega) ?_ | refine wp_cond_no rfl (by omega) ?_)
  exact end_tmp rfl (by conv => (lhs; whnf)) ⟨rfl, rfl⟩
set_option maxRecDepth 100000 in
set_option maxHeartbeats 8000000 in
theorem simplex_c {S : Nat → Prop} {w : World} {gl gr gb capb : Nat} {t1 t2 tb : Tri} (hS : Up S w) (ht : Tab w) (hl : Blk w gl 95 [.slice (some ⟨gr, 0, none⟩) 2 2])
    (hb : Blk w gr 34 (flat [t1, t2])) (h1 : RatV S w t1.val 1) (h2 : RatV S w t2.val 1) (hbb : Blk w gb 34 (flat [tb])) (hB : RatV S w tb.val (-1)) :
    Gives Tryz.prog 134 [.slice (some ⟨gl, 0, none⟩) 1 1, .slice (some ⟨gb, 0, none⟩) 1 capb] w fun v' w' => Ext w w' ∧ ∃ gs gc gg capg rows basic tc, v' = .pointer (some ⟨gs, 0, none⟩) ∧
      Blk w' gs 169 [rows, .slice (some ⟨gc, 0, none⟩) 4 4, basic, .int .i64 2, .slice (some ⟨gg, 0, none⟩) 1 capg] ∧ Blk w' gc 34 (flat tc) ∧ Rats S w' tc [1, 1, 0, -1] ∧ (∃ cs, Blk w' gg 4 (.bool true :: cs)) := by
  have hB0 := hB
  refine gives_of Tryz.func134 rfl rfl rfl ?_
  repeat (first | refine wp_seq_region ?_ | refine wp_region ?_ | refine r_move (by conv => (lhs; whnf)) ?_ | refine r_assign (by conv => (lhs; whnf)) ?_ | refine r_nil ?_)
  refine r_call (columns_c hl) rfl ?_
  rintro v1 w1 ⟨rfl, rfl⟩
  refine r_build (parts := [(3, .tmp 14)]) (zs := [.slice none 0 0, .slice none 0 0, .slice none 0 0, .int .i64 0, .slice none 0 0]) (vs := [(3, .int .i64 2)]) (cs := [.slice none 0 0, .slice none 0 0, .slice none 0 0, .int .i64 2, .slice none 0 0]) rfl rfl (fill_one rfl rfl (by simp) fill_nil) ?_
  refine r_box (cs := [.slice none 0 0, .slice none 0 0, .slice none 0 0, .int .i64 2, .slice none 0 0]) (by conv => (lhs; whnf)) rfl ?_
  intro w2 gs k2 hgs hgss
  have hl2 := hl.to k2
  have hb2 := hb.to k2
  have hbb2 := hbb.to k2
  repeat (first | refine r_nilCheck rfl ?_ | refine r_load_blk rfl hgs rfl ?_ | refine wp_seq_region ?_ | refine wp_region ?_ | refine r_move (by conv => (lhs; whnf)) ?_ | refine r_assign (by conv => (lhs; whnf)) ?_ | refine r_nil ?_ | refine r_len_sl rfl ?_ | refine r_addI rfl rfl (by omega) (by omega) ?_ | refine r_field rfl ?_)
  refine r_make (l := 4) (c := 4) rfl rfl rfl rfl (by decide) (by decide) (by decide) ?_
  intro w3 gc k3 hgc hgcs
  replace hgc : Blk w3 gc 34 (flat [zTri, zTri, zTri, zTri]) := by
    have e := made_flat (.bool false) (.slice none 0 0) (.slice none 0 0) 4
    exact e ▸ hgc
  have hgsl := hgs.lt
  replace hgs := hgs.to k3
  repeat (first | refine r_nilCheck rfl ?_ | refine r_field rfl ?_)
  refine r_store (i := 1) (u := .slice (some ⟨gc, 0, none⟩) 4 4) rfl rfl hgs (show 1 < 5 by decide) rfl ?_
  intro w4 k4 hgs4
  have hgc4 := hgc.wr k4 (by omega)
  have k : Ext w1 w4 := (Keeps.past (k2.trans k3) k4 hgss)
  replace hl2 := hl.to k
  replace hb2 := hb.to k
  replace hbb2 := hbb.to k
  replace h1 := h1.to k
  replace h2 := h2.to k
  replace hB := hB.to k
  repeat (first | refine wp_seq_region ?_ | refine wp_seq_seq ?_ | refine wp_region ?_ | refine r_move (by conv => (lhs; whnf)) ?_ | refine r_nil ?_ | refine q_then ?_ | refine r_len_sl rfl ?_)
  try refine wp_seq_block ?_
  refine unr_for 3 ?_
  repeat (first | refine unr_step ?_ | refine r_load_blk rfl hl2 rfl ?_ | refine wp_seq_region ?_ | refine wp_seq_bseq ?_ | refine wp_region ?_ | refine r_move (by conv => (lhs; whnf)) ?_ | refine r_assign (by conv => (lhs; whnf)) ?_ | refine r_nil ?_ | refine q_then ?_ | refine wp_block_seq ?_ | refine wp_skip ?_ | refine r_lss rfl rfl ?_ | refine r_index_sl rfl rfl (by omega) (by omega) ?_ | refine wp_if_yes rfl (by omega) ?_)
  refine r_make (l := 4) (c := 4) rfl rfl rfl rfl (by decide) (by decide) (by decide) ?_
  intro w5 go k5 hgo hgos
  replace hgo : Blk w5 go 34 (flat [zTri, zTri, zTri, zTri]) := by
    have e := made_flat (.bool false) (.slice none 0 0) (.slice none 0 0) 4
    exact e ▸ hgo
  have hgcl := hgc4.lt
  replace hgs := hgs4.to k5
  replace hgc := hgc4.to k5
  replace k := k.trans k5
  replace hl2 := hl2.to k5
  replace hb2 := hb2.to k5
  replace hbb2 := hbb2.to k5
  replace h1 := h1.to k5
  replace h2 := h2.to k5
  replace hB := hB.to k5
  clear k2 k3 k4 k5 hgs4 hgc4
  repeat (first | refine wp_seq_region ?_ | refine wp_region ?_ | refine r_move (by conv => (lhs; whnf)) ?_ | refine r_assign (by conv => (lhs; whnf)) ?_ | refine r_nil ?_ | refine r_index_sl rfl rfl (by omega) (by omega) ?_)
  refine r_load_tri 0 rfl (by decide) hbb2 rfl ?_
  refine r_call (rsign_c hB) rfl ?_
  rintro v6 w6 ⟨rfl, k6⟩
  replace hgs := hgs.to k6
  replace hgc := hgc.to k6
  replace hgo := hgo.to k6
  replace k := k.trans k6
  replace hl2 := hl2.to k6
  replace hb2 := hb2.to k6
  replace hbb2 := hbb2.to k6
  replace h1 := h1.to k6
  replace h2 := h2.to k6
  replace hB := hB.to k6
  have hgsle : w1.heap.size ≤ gs := hgss
  have hgcle : w1.heap.size ≤ gc := by omega
  have hgole : w1.heap.size ≤ go := by omega
  have hne1 : gs ≠ gc := by omega
  have hne2 : gs ≠ go := by omega
  have hne3 : gc ≠ go := by omega
  clear hgss hgcs hgos hgsl hgcl k6 hl2 hbb2
  repeat (first | refine wp_seq_region ?_ | refine wp_seq_seq ?_ | refine wp_region ?_ | refine r_move (by conv => (lhs; whnf)) ?_ | refine r_assign (by conv => (lhs; whnf)) ?_ | refine r_nil ?_ | refine q_then ?_ | refine r_len_sl rfl ?_ | refine r_lss rfl rfl ?_)
  first | refine wp_seq_block ?_ | refine wp_thenB ?_ | refine wp_thenBB ?_ | skip
  refine wp_mid [(11, 12), (47, 62)] (fun ρ w' => ∃ n0 n1, Ext w1 w' ∧ Blk w' gs 169 [.slice none 0 0, .slice (some ⟨gc, 0, none⟩) 4 4, .slice none 0 0, .int .i64 2, .slice none 0 0] ∧ Blk w' gc 34 (flat [zTri, zTri, zTri, zTri]) ∧ Blk w' go 34 (flat [n0, n1, zTri, zTri]) ∧ RatV S w' n0.val (-1) ∧ RatV S w' n1.val (-1)) ?_ ?_
  · try refine wp_seq_block ?_
    refine unr_for 4 ?_
    repeat (first | refine unr_step ?_ | refine r_load_tri 0 rfl (by decide) hb2 rfl ?_ | refine wp_seq_region ?_ | refine wp_seq_bseq ?_ | refine wp_region ?_ | refine r_move (by conv => (lhs; whnf)) ?_ | refine r_nil ?_ | refine q_then ?_ | refine wp_block_seq ?_ | refine wp_skip ?_ | refine r_lss rfl rfl ?_ | refine r_index_sl rfl rfl (by omega) (by omega) ?_ | refine wp_if_yes rfl (by omega) ?_)
    refine r_alloc (cs := [.bool false, .slice none 0 0, .slice none 0 0]) rfl ?_
    intro w7 gx0 k7 hgx0 hgxs0
    have hgol0 := hgo.lt
    have hgsl0 := hgs.lt
    have hgcl0 := hgc.lt
    have hsz7 := k7.size
    have hksz7 := k.size
    replace hgs := hgs.to k7
    replace hgc := hgc.to k7
    replace hgo := hgo.to k7
    replace h1 := h1.to k7
    replace h2 := h2.to k7
    replace hB := hB.to k7
    replace k := k.trans k7
    have ho0 := h1.ones
    repeat (first | refine r_assign (by conv => (lhs; whnf)) ?_)
    refine r_store3 rfl rfl hgx0 rfl ho0.1 ho0.2.1 ho0.2.2 ?_
    intro w8 k8 hgy0
    replace k := k.past k8 (by omega)
    replace h1 := h1.wrT k8 hgx0 (by decide)
    replace h2 := h2.wrT k8 hgx0 (by decide)
    replace hB := hB.wrT k8 hgx0 (by decide)
    replace hgs := hgs.wr k8 (by omega)
    replace hgc := hgc.wr k8 (by omega)
    replace hgo := hgo.wr k8 (by omega)
    have hgyv0 : Blk w8 gx0 34 (flat [t1]) := hgy0
    clear k7 k8 hgx0 hgy0
    repeat (first | refine r_load_tri 0 rfl (by decide) hgyv0 rfl ?_ | refine wp_seq_region ?_ | refine wp_region ?_ | refine r_move (by conv => (lhs; whnf)) ?_ | refine r_nil ?_ | refine r_index_sl rfl rfl (by omega) (by omega) ?_)
    refine r_store_tri (u := t1) 0 rfl (by decide) rfl hgo (by simp) ho0.1 ho0.2.1 ho0.2.2 ?_
    intro w9 k9 hgo0
    replace k := k.past k9 (by omega)
    replace h1 := h1.wrT k9 hgo (by decide)
    replace h2 := h2.wrT k9 hgo (by decide)
    replace hB := hB.wrT k9 hgo (by decide)
    replace hgs := hgs.wr k9 (by omega)
    replace hgc := hgc.wr k9 (by omega)
    replace hgyv0 := hgyv0.wr k9 (by omega)
    replace hgo := hgo0
    clear k9 hgo0
    repeat (first | refine wp_seq_region ?_ | refine wp_region ?_ | refine r_move (by conv => (lhs; whnf)) ?_ | refine r_nil ?_ | refine q_then ?_)
    first | refine wp_cond_yes rfl (by decide) ?_ | refine wp_if_yes rfl (by decide) ?_ | skip
    repeat (first | refine r_load_tri 0 rfl (by decide) hgyv0 rfl ?_ | refine wp_region ?_ | refine r_move (by conv => (lhs; whnf)) ?_)
    refine r_call (rneg_c (v := Tri.val t1) h1) rfl ?_
    rintro v10 w10 ⟨k10, hn0⟩
    obtain ⟨n0, rfl, hn0, p0, q0, r0⟩ := RatV.tri hn0
    replace hgs := hgs.to k10
    replace hgc := hgc.to k10
    replace hgo := hgo.to k10
    replace h1 := h1.to k10
    replace h2 := h2.to k10
    replace hB := hB.to k10
    replace k := k.trans k10
    repeat (first | refine r_index_sl rfl rfl (by omega) (by omega) ?_)
    refine r_store_tri (u := n0) 0 rfl (by decide) rfl hgo (by simp) p0 q0 r0 ?_
    intro w11 k11 hgo0
    replace k := k.past k11 (by omega)
    replace h1 := h1.wrT k11 hgo (by decide)
    replace h2 := h2.wrT k11 hgo (by decide)
    replace hB := hB.wrT k11 hgo (by decide)
    replace hn0 := hn0.wrT k11 hgo (by decide)
    replace hgs := hgs.wr k11 (by omega)
    replace hgc := hgc.wr k11 (by omega)
    replace hgo := hgo0
    replace hb2 := hb.to k
    clear k10 k11 hgo0 hgyv0 hgol0 hgsl0 hgcl0 hgxs0 hsz7 hksz7
    repeat (first | refine unr_step ?_ | refine r_load_tri 1 rfl (by decide) hb2 rfl ?_ | refine wp_seq_region ?_ | refine wp_seq_bseq ?_ | refine wp_region ?_ | refine r_move (by conv => (lhs; whnf)) ?_ | refine r_nil ?_ | refine q_then ?_ | refine wp_block_seq ?_ | refine wp_skip ?_ | refine r_lss rfl rfl ?_ | refine r_addI rfl rfl (by omega) (by omega) ?_ | refine r_index_sl rfl rfl (by omega) (by omega) ?_ | refine wp_if_yes rfl (by omega) ?_)
    refine r_alloc (cs := [.bool false, .slice none 0 0, .slice none 0 0]) rfl ?_
    intro w12 gx1 k12 hgx1 hgxs1
    have hgol1 := hgo.lt
    have hgsl1 := hgs.lt
    have hgcl1 := hgc.lt
    have hsz12 := k12.size
    have hksz12 := k.size
    replace hgs := hgs.to k12
    replace hgc := hgc.to k12
    replace hgo := hgo.to k12
    replace h1 := h1.to k12
    replace h2 := h2.to k12
    replace hB := hB.to k12
    replace hn0 := hn0.to k12
    replace k := k.trans k12
    have ho1 := h2.ones
    repeat (first | refine r_assign (by conv => (lhs; whnf)) ?_)
    refine r_store3 rfl rfl hgx1 rfl ho1.1 ho1.2.1 ho1.2.2 ?_
    intro w13 k13 hgy1
    replace k := k.past k13 (by omega)
    replace h1 := h1.wrT k13 hgx1 (by decide)
    replace h2 := h2.wrT k13 hgx1 (by decide)
    replace hB := hB.wrT k13 hgx1 (by decide)
    replace hn0 := hn0.wrT k13 hgx1 (by decide)
    replace hgs := hgs.wr k13 (by omega)
    replace hgc := hgc.wr k13 (by omega)
    replace hgo := hgo.wr k13 (by omega)
    have hgyv1 : Blk w13 gx1 34 (flat [t2]) := hgy1
    clear k12 k13 hgx1 hgy1
    repeat (first | refine r_load_tri 0 rfl (by decide) hgyv1 rfl ?_ | refine wp_seq_region ?_ | refine wp_region ?_ | refine r_move (by conv => (lhs; whnf)) ?_ | refine r_nil ?_ | refine r_index_sl rfl rfl (by omega) (by omega) ?_)
    refine r_store_tri (u := t2) 1 rfl (by decide) rfl hgo (by simp) ho1.1 ho1.2.1 ho1.2.2 ?_
    intro w14 k14 hgo1
    replace k := k.past k14 (by omega)
    replace h1 := h1.wrT k14 hgo (by decide)
    replace h2 := h2.wrT k14 hgo (by decide)
    replace hB := hB.wrT k14 hgo (by decide)
    replace hn0 := hn0.wrT k14 hgo (by decide)
    replace hgs := hgs.wr k14 (by omega)
    replace hgc := hgc.wr k14 (by omega)
    replace hgyv1 := hgyv1.wr k14 (by omega)
    replace hgo := hgo1
    clear k14 hgo1
    repeat (first | refine wp_seq_region ?_ | refine wp_region ?_ | refine r_move (by conv => (lhs; whnf)) ?_ | refine r_nil ?_ | refine q_then ?_)
    first | refine wp_cond_yes rfl (by decide) ?_ | refine wp_if_yes rfl (by decide) ?_ | skip
    repeat (first | refine r_load_tri 0 rfl (by decide) hgyv1 rfl ?_ | refine wp_region ?_ | refine r_move (by conv => (lhs; whnf)) ?_)
    refine r_call (rneg_c (v := Tri.val t2) h2) rfl ?_
    rintro v15 w15 ⟨k15, hn1⟩
    obtain ⟨n1, rfl, hn1, p1, q1, r1⟩ := RatV.tri hn1
    replace hgs := hgs.to k15
    replace hgc := hgc.to k15
    replace hgo := hgo.to k15
    replace h1 := h1.to k15
    replace h2 := h2.to k15
    replace hB := hB.to k15
    replace hn0 := hn0.to k15
    replace k := k.trans k15
    repeat (first | refine r_index_sl rfl rfl (by omega) (by omega) ?_)
    refine r_store_tri (u := n1) 1 rfl (by decide) rfl hgo (by simp) p1 q1 r1 ?_
    intro w16 k16 hgo1
    replace k := k.past k16 (by omega)
    replace h1 := h1.wrT k16 hgo (by decide)
    replace h2 := h2.wrT k16 hgo (by decide)
    replace hB := hB.wrT k16 hgo (by decide)
    replace hn1 := hn1.wrT k16 hgo (by decide)
    replace hn0 := hn0.wrT k16 hgo (by decide)
    replace hgs := hgs.wr k16 (by omega)
    replace hgc := hgc.wr k16 (by omega)
    replace hgo := hgo1
    replace hb2 := hb.to k
    clear k15 k16 hgo1 hgyv1 hgol1 hgsl1 hgcl1 hgxs1 hsz12 hksz12
    repeat (first | refine unr_step ?_ | refine wp_seq_region ?_ | refine wp_region ?_ | refine r_move (by conv => (lhs; whnf)) ?_ | refine r_nil ?_ | refine q_then ?_ | refine wp_exit ?_ | refine q_then_exit ?_ | refine q_block_hit rfl ?_ | refine r_lss rfl rfl ?_ | refine r_addI rfl rfl (by omega) (by omega) ?_ | refine wp_if_no rfl (by omega) ?_)
    exact ⟨by (repeat (first | refine agree_upd rfl ?_ | exact agree_over | refine agree_sub rfl ?_ | exact agree_refl | refine agree_base rfl ?_ | refine agree_base' rfl ?_)), n0, n1, k, hgs, hgc, hgo, hn0, hn1⟩
  rintro u w2 ⟨n0, n1, k, hgs, hgc, hgo, hn0, hn1⟩
  refine wp_fresh [(0, .slice (some ⟨gl, 0, none⟩) 1 1), (1, .slice (some ⟨gb, 0, none⟩) 1 capb), (5, .pointer (some ⟨gs, 0, none⟩)), (6, .int .i64 4), (7, .int .i64 0), (9, .slice (some ⟨go, 0, none⟩) 4 4), (10, .bool (tst ((-1 : Rat).num.sign < 0))), (30, .slice (some ⟨gl, 0, none⟩) 1 1), (31, .int .i64 1), (32, .int .i64 0)] ⟨rfl, rfl, rfl, rfl, rfl, rfl, rfl, rfl, rfl, rfl, trivial⟩ ?_
  intro u3
  have hS2 := hS.to k
  have hB := hB0.to k
  have hb3 := hbb.to k
  repeat (first | refine wp_seq_region ?_)
  refine wp_drawn 9 (by kernel_rfl) (by kernel_rfl) ?_
  apply ob_step
  · intro x w1 k1 hd
    refine r_move (by conv => (lhs; whnf)) ?_
    refine r_nil ?_
    exact ob_eq
  apply ob_step
  · intro x w1 k1 hd
    refine r_move (by conv => (lhs; whnf)) ?_
    refine r_nil ?_
    exact ob_eq
  apply ob_step
  · intro x w1 k1 hd
    refine r_nilCheck rfl ?_
    refine r_nil ?_
    exact ob_eq
  apply ob_step
  · intro x w1 k1 hd
    refine r_field rfl ?_
    refine r_nil ?_
    exact ob_eq
  apply ob_step
  · intro x w1 k1 hd
    refine r_load_blk rfl (hgs.to k1) rfl ?_
    refine r_nil ?_
    exact ob_eq
  apply ob_step
  · intro x w1 k1 hd
    refine r_move (by conv => (lhs; whnf)) ?_
    refine r_nil ?_
    exact ob_eq
  apply ob_step
  · intro x w1 k1 hd
    refine r_addI rfl rfl (by omega) (by omega) ?_
    refine r_nil ?_
    exact ob_eq
  refine ob_step (e := ratE S ((1 : Int) : Rat)) ?_ ?_
  · intro x w1 k1 hd
    refine r_call (of_c (z := 1) (hS2.to k1) (by decide) (by decide)) rfl ?_
    rintro v2 w2 ⟨k2, h2⟩
    exact r_nil (ob_of k2 h2)
  apply ob_step
  · intro x w1 k1 hd
    refine r_index_sl rfl rfl (by omega) (by omega) ?_
    refine r_nil ?_
    exact ob_eq
  refine ob_nil (ob_end ?_)
  intro x w3 k3 hall
  obtain ⟨t3, hv3, h3, o1, o2, o3⟩ := RatV.tri (show RatV S w3 (x 7) ((1 : Int) : Rat) from hall.2.1)
  replace hgs := hgs.to k3
  replace hgc := hgc.to k3
  replace hgo := hgo.to k3
  replace hb3 := hb3.to k3
  replace hn0 := hn0.to k3
  replace hn1 := hn1.to k3
  replace hB := hB.to k3
  replace k := k.trans k3
  refine r_store_tri (u := t3) 2 rfl (by decide) hv3 hgo (by simp) o1 o2 o3 ?_
  intro w4 k4 hgo4
  replace k := k.past k4 hgole
  replace hn0 := hn0.wrT k4 hgo (by decide)
  replace hn1 := hn1.wrT k4 hgo (by decide)
  replace hB := hB.wrT k4 hgo (by decide)
  replace h3 := h3.wrT k4 hgo (by decide)
  have hgb : w1.heap.size > gb := hbb.lt
  replace hgs := hgs.wr k4 (by omega)
  replace hgc := hgc.wr k4 (by omega)
  replace hb3 := hb3.wr k4 (by omega)
  replace hgo : Blk w4 go 34 (flat [n0, n1, t3, zTri]) := hgo4
  clear k3 k4 hall hgo4
  have oB := hB.ones
  repeat (first | refine r_load_tri 0 rfl (by decide) hb3 rfl ?_ | refine wp_seq_region ?_ | refine wp_seq_seq ?_ | refine wp_region ?_ | refine r_move (by conv => (lhs; whnf)) ?_ | refine r_nil ?_ | refine r_subI rfl rfl (by omega) (by omega) ?_ | refine r_index_sl rfl rfl (by omega) (by omega) ?_)
  refine r_store_tri (u := tb) 3 rfl (by decide) rfl hgo (by simp) oB.1 oB.2.1 oB.2.2 ?_
  intro w5 k5 hgo5
  replace k := k.past k5 hgole
  replace hn0 := hn0.wrT k5 hgo (by decide)
  replace hn1 := hn1.wrT k5 hgo (by decide)
  replace hB := hB.wrT k5 hgo (by decide)
  replace h3 := h3.wrT k5 hgo (by decide)
  replace hgs := hgs.wr k5 (by omega)
  replace hgc := hgc.wr k5 (by omega)
  replace hb3 := hb3.wr k5 (by omega)
  replace hgo : Blk w5 go 34 (flat [n0, n1, t3, tb]) := hgo5
  clear k5 hgo5
  repeat (first | refine wp_seq_region ?_ | refine wp_region ?_ | refine r_move (by conv => (lhs; whnf)) ?_ | refine r_nil ?_ | refine q_then ?_)
  first | refine wp_cond_yes rfl (by decide) ?_ | refine wp_if_yes rfl (by decide) ?_ | skip
  repeat (first | refine r_load_tri 0 rfl (by decide) hb3 rfl ?_ | refine wp_region ?_ | refine r_move (by conv => (lhs; whnf)) ?_ | refine r_subI rfl rfl (by omega) (by omega) ?_ | refine r_index_sl rfl rfl (by omega) (by omega) ?_)
  refine r_call (rneg_c (v := tb.val) hB) rfl ?_
  rintro v6 w6 ⟨k6, hn3⟩
  obtain ⟨n3, rfl, hn3, o31, o32, o33⟩ := RatV.tri hn3
  replace hgs := hgs.to k6
  replace hgc := hgc.to k6
  replace hgo := hgo.to k6
  replace hn0 := hn0.to k6
  replace hn1 := hn1.to k6
  replace h3 := h3.to k6
  replace k := k.trans k6
  repeat (first | refine r_index_sl rfl rfl (by omega) (by omega) ?_)
  refine r_store_tri (u := n3) 3 rfl (by decide) rfl hgo (by simp) o31 o32 o33 ?_
  intro w7 k7 hgo7
  replace k := k.past k7 hgole
  replace hn0 := hn0.wrT k7 hgo (by decide)
  replace hn1 := hn1.wrT k7 hgo (by decide)
  replace h3 := h3.wrT k7 hgo (by decide)
  replace hn3 := hn3.wrT k7 hgo (by decide)
  replace hgs := hgs.wr k7 (by omega)
  replace hgc := hgc.wr k7 (by omega)
  replace hgo : Blk w7 go 34 (flat [n0, n1, t3, n3]) := hgo7
  clear k6 k7 hgo7 hb3 hB
  repeat (first | refine r_load_blk rfl hgs rfl ?_ | refine wp_seq_region ?_ | refine wp_region ?_ | refine r_move (by conv => (lhs; whnf)) ?_ | refine r_nil ?_ | refine r_field rfl ?_ | refine r_nilCheck rfl ?_)
  refine r_lit1 (v := .slice (some ⟨go, 0, none⟩) 4 4) rfl rfl ?_
  intro w8 g8 k8 hg8 hgs8
  skip
  have hb8 := hg8.lt
  refine r_append1 (base := g8) (m := 0) (xs := []) (cs := [.slice (some ⟨go, 0, none⟩) 4 4]) rfl own_nil rfl hg8 (show 0 < 1 by decide) rfl (fun v hv => by simp only [List.mem_singleton] at hv; subst hv; rfl) (by decide) (by decide) (by omega) ?_
  intro rows w9 hrows k9
  have k9' : Ext w8 w9 := k9.mono fun i _ e => by cases e
  have hro : rows.oneCell' = true := by
    rcases hrows.2 with ⟨hv, _⟩ | ⟨g, cap, cur, hv, _⟩ <;> rw [hv] <;> rfl
  clear hrows k9
  replace hgs := hgs.to k8
  replace hgc := hgc.to k8
  replace hgo := hgo.to k8
  replace hn0 := hn0.to k8
  replace hn1 := hn1.to k8
  replace h3 := h3.to k8
  replace hn3 := hn3.to k8
  replace hgs := hgs.to k9'
  replace hgc := hgc.to k9'
  replace hgo := hgo.to k9'
  replace hn0 := hn0.to k9'
  replace hn1 := hn1.to k9'
  replace h3 := h3.to k9'
  replace hn3 := hn3.to k9'
  replace k := (k.trans k8).trans k9'
  repeat (first | refine r_field rfl ?_ | refine r_nilCheck rfl ?_)
  refine r_store (i := 0) (u := rows) rfl rfl hgs (show 0 < 5 by decide) hro ?_
  intro w10 k10 hgs10
  replace k := k.past k10 hgsle
  replace hn0 := hn0.wrT k10 hgs (by decide)
  replace hn1 := hn1.wrT k10 hgs (by decide)
  replace h3 := h3.wrT k10 hgs (by decide)
  replace hn3 := hn3.wrT k10 hgs (by decide)
  replace hgc := hgc.wr k10 (by omega)
  replace hgo := hgo.wr k10 (by omega)
  replace hgs : Blk w10 gs 169 [rows, .slice (some ⟨gc, 0, none⟩) 4 4, .slice none 0 0, .int .i64 2, .slice none 0 0] := hgs10
  clear k8 k9' k10 hgs10 hg8 hgs8 hb8
  repeat (first | refine wp_seq_region ?_ | refine r_nil ?_)
  refine wp_drawn 15 (by kernel_rfl) (by kernel_rfl) ?_
  apply ob_step
  · intro x w1 k1 hd
    refine r_move (by conv => (lhs; whnf)) ?_
    refine r_nil ?_
    exact ob_eq
  apply ob_step
  · intro x w1 k1 hd
    refine r_move (by conv => (lhs; whnf)) ?_
    refine r_nil ?_
    exact ob_eq
  apply ob_step
  · intro x w1 k1 hd
    refine r_nilCheck rfl ?_
    refine r_nil ?_
    exact ob_eq
  apply ob_step
  · intro x w1 k1 hd
    refine r_field rfl ?_
    refine r_nil ?_
    exact ob_eq
  apply ob_step
  · intro x w1 k1 hd
    refine r_load_blk rfl (hgs.to k1) rfl ?_
    refine r_nil ?_
    exact ob_eq
  apply ob_step
  · intro x w1 k1 hd
    refine r_move (by conv => (lhs; whnf)) ?_
    refine r_nil ?_
    exact ob_eq
  apply ob_step
  · intro x w1 k1 hd
    refine r_nilCheck rfl ?_
    refine r_nil ?_
    exact ob_eq
  apply ob_step
  · intro x w1 k1 hd
    refine r_field rfl ?_
    refine r_nil ?_
    exact ob_eq
  apply ob_step
  · intro x w1 k1 hd
    refine r_load_blk rfl (hgs.to k1) rfl ?_
    refine r_nil ?_
    exact ob_eq
  apply ob_step
  · intro x w1 k1 hd
    refine r_move (by conv => (lhs; whnf)) ?_
    refine r_nil ?_
    exact ob_eq
  apply ob_step
  · intro x w1 k1 hd
    refine r_addI rfl rfl (by omega) (by omega) ?_
    refine r_nil ?_
    exact ob_eq
  refine ob_step (e := Ent.of (fun v w => ∃ g, v = .slice (some ⟨g, 0, none⟩) 1 1 ∧ Blk w g 3 [.int .i64 2]) (fun v w w' ⟨g, h, hb⟩ k => ⟨g, h, hb.to k⟩)) ?_ ?_
  · intro x w1 k1 hd
    refine r_lit1 (v := .int .i64 2) rfl rfl ?_
    intro w2 g2 k2 hg2 _
    exact r_nil (ob_of k2 ⟨g2, rfl, hg2⟩)
  refine ob_step (e := Ent.of (fun v w => v.oneCell' = true) (fun v w w' h k => h)) ?_ ?_
  · intro x w1 k1 hd
    obtain ⟨g2, hx2, hg2⟩ : ∃ g, x 11 = .slice (some ⟨g, 0, none⟩) 1 1 ∧ Blk w1 g 3 [.int .i64 2] := hd.1
    have hl2 := hg2.lt
    refine r_append1 (base := g2) (m := 0) (xs := []) (cs := [.int .i64 2]) rfl own_nil hx2 hg2 (by decide) rfl (fun v hv => by simp only [List.mem_singleton] at hv; subst hv; rfl) (by decide) (by decide) (by omega) ?_
    intro v3 w3 h3 k3
    refine r_nil (ob_of (k3.mono fun i _ e => by cases e) ?_)
    rcases h3.2 with ⟨hv, _⟩ | ⟨g, cap, cur, hv, _⟩ <;> rw [hv] <;> rfl
  apply ob_step
  · intro x w1 k1 hd
    refine r_nilCheck rfl ?_
    refine r_nil ?_
    exact ob_eq
  apply ob_step
  · intro x w1 k1 hd
    refine r_field rfl ?_
    refine r_nil ?_
    exact ob_eq
  refine ob_nil (ob_end ?_)
  intro x w11 k11 hall
  have hbo : (x 12).oneCell' = true := hall.2.2.1
  replace hgs := hgs.to k11
  replace hgc := hgc.to k11
  replace hgo := hgo.to k11
  replace hn0 := hn0.to k11
  replace hn1 := hn1.to k11
  replace h3 := h3.to k11
  replace hn3 := hn3.to k11
  replace k := k.trans k11
  refine r_store (i := 2) (u := x 12) rfl rfl hgs (show 2 < 5 by decide) hbo ?_
  intro w12 k12 hgs12
  replace k := k.past k12 hgsle
  replace hn0 := hn0.wrT k12 hgs (by decide)
  replace hn1 := hn1.wrT k12 hgs (by decide)
  replace h3 := h3.wrT k12 hgs (by decide)
  replace hn3 := hn3.wrT k12 hgs (by decide)
  replace hgc := hgc.wr k12 (by omega)
  replace hgo := hgo.wr k12 (by omega)
  replace hgs : Blk w12 gs 169 [rows, .slice (some ⟨gc, 0, none⟩) 4 4, x 12, .int .i64 2, .slice none 0 0] := hgs12
  clear k11 k12 hgs12 hall
  generalize x 12 = basic at *
  repeat (first | refine r_load_blk rfl hgs rfl ?_ | refine wp_seq_region ?_ | refine wp_region ?_ | refine r_move (by conv => (lhs; whnf)) ?_ | refine r_nil ?_ | refine r_field rfl ?_ | refine r_nilCheck rfl ?_)
  refine r_lit1 (v := .bool (tst ((-1 : Rat).num.sign < 0))) rfl rfl ?_
  intro w13 g13 k13 hg13 hgs13
  skip
  refine r_append1 (base := w1.heap.size) (m := 0) (xs := []) (cs := [.bool (tst ((-1 : Rat).num.sign < 0))]) rfl own_nil rfl hg13 (by decide) rfl (fun v hv => by simp only [List.mem_singleton] at hv; subst hv; rfl) (by decide) (by decide) (by have := k.size; have := k13.size; omega) ?_
  intro sg w14 hsg k14
  have k14' : Ext w13 w14 := k14.mono fun i _ e => by cases e
  obtain ⟨gg, capg, cs, rfl, hgg, hggs⟩ : ∃ gg capg cs, sg = .slice (some ⟨gg, 0, none⟩) 1 capg ∧ Blk w14 gg 4 (.bool true :: cs) ∧ w1.heap.size ≤ gg := by
    rcases hsg.2 with ⟨hv, h0⟩ | ⟨g, cap, cur, hv, hb, hg, hn, hm, hc, htk⟩
    · omega
    · have hcur : cur.toList = .bool true :: cur.toList.drop 1 := by
        have e1 : cur.toList.take 1 = [.bool true] := by
          have : cur.toList.take (1 * 1) = [] ++ [Value.bool (tst ((-1 : Rat).num.sign < 0))] := htk
          rw [tst_true (by decide)] at this
          simpa using this
        rw [← List.take_append_drop 1 cur.toList, e1]
        rfl
      refine ⟨g, cap, cur.toList.drop 1, hv, ?_, hb⟩
      unfold Blk
      rw [← hcur]
      simpa using hg
  clear hsg k14
  replace hgs := hgs.to k13
  replace hgc := hgc.to k13
  replace hgo := hgo.to k13
  replace hn0 := hn0.to k13
  replace hn1 := hn1.to k13
  replace h3 := h3.to k13
  replace hn3 := hn3.to k13
  replace hgs := hgs.to k14'
  replace hgc := hgc.to k14'
  replace hgo := hgo.to k14'
  replace hn0 := hn0.to k14'
  replace hn1 := hn1.to k14'
  replace h3 := h3.to k14'
  replace hn3 := hn3.to k14'
  have hk14 : w1.heap.size ≤ w14.heap.size := by have := k.size; have := k13.size; have := k14'.size; omega
  replace k := (k.trans k13).trans k14'
  have hne4 : gs ≠ gg := hgs.ne hgg (by decide)
  repeat (first | refine r_field rfl ?_ | refine r_nilCheck rfl ?_)
  refine r_store (i := 4) (u := .slice (some ⟨gg, 0, none⟩) 1 capg) rfl rfl hgs (show 4 < 5 by decide) rfl ?_
  intro w15 k15 hgs15
  replace k := k.past k15 hgsle
  replace hn0 := hn0.wrT k15 hgs (by decide)
  replace hn1 := hn1.wrT k15 hgs (by decide)
  replace h3 := h3.wrT k15 hgs (by decide)
  replace hn3 := hn3.wrT k15 hgs (by decide)
  replace hgc := hgc.wr k15 (by omega)
  replace hgo := hgo.wr k15 (by omega)
  replace hgg := hgg.wr k15 (by omega)
  replace hgs : Blk w15 gs 169 [rows, .slice (some ⟨gc, 0, none⟩) 4 4, basic, .int .i64 2, .slice (some ⟨gg, 0, none⟩) 1 capg] := hgs15
  clear k13 k14' k15 hgs15 hg13 hgs13
  have hS15 := hS.to k
  repeat (first | refine wp_seq_region ?_ | refine r_nil ?_)
  refine wp_drawn 25 (by kernel_rfl) (by kernel_rfl) ?_
  apply ob_step
  · intro x w1 k1 hd
    refine r_move (by conv => (lhs; whnf)) ?_
    refine r_nil ?_
    exact ob_eq
  apply ob_step
  · intro x w1 k1 hd
    refine r_nilCheck rfl ?_
    refine r_nil ?_
    exact ob_eq
  apply ob_step
  · intro x w1 k1 hd
    refine r_field rfl ?_
    refine r_nil ?_
    exact ob_eq
  apply ob_step
  · intro x w1 k1 hd
    refine r_load_blk rfl (hgs.to k1) rfl ?_
    refine r_nil ?_
    exact ob_eq
  apply ob_step
  · intro x w1 k1 hd
    refine r_move (by conv => (lhs; whnf)) ?_
    refine r_nil ?_
    exact ob_eq
  apply ob_step
  · intro x w1 k1 hd
    refine r_nilCheck rfl ?_
    refine r_nil ?_
    exact ob_eq
  apply ob_step
  · intro x w1 k1 hd
    refine r_field rfl ?_
    refine r_nil ?_
    exact ob_eq
  apply ob_step
  · intro x w1 k1 hd
    refine r_load_blk rfl (hgs.to k1) rfl ?_
    refine r_nil ?_
    exact ob_eq
  apply ob_step
  · intro x w1 k1 hd
    refine r_move (by conv => (lhs; whnf)) ?_
    refine r_nil ?_
    exact ob_eq
  apply ob_step
  · intro x w1 k1 hd
    refine r_addI rfl rfl (by omega) (by omega) ?_
    refine r_nil ?_
    exact ob_eq
  apply ob_step
  · intro x w1 k1 hd
    refine r_move (by conv => (lhs; whnf)) ?_
    refine r_nil ?_
    exact ob_eq
  apply ob_step
  · intro x w1 k1 hd
    refine r_nilCheck rfl ?_
    refine r_nil ?_
    exact ob_eq
  apply ob_step
  · intro x w1 k1 hd
    refine r_field rfl ?_
    refine r_nil ?_
    exact ob_eq
  apply ob_step
  · intro x w1 k1 hd
    refine r_load_blk rfl (hgs.to k1) rfl ?_
    refine r_nil ?_
    exact ob_eq
  apply ob_step
  · intro x w1 k1 hd
    refine r_move (by conv => (lhs; whnf)) ?_
    refine r_nil ?_
    exact ob_eq
  apply ob_step
  · intro x w1 k1 hd
    refine r_nilCheck rfl ?_
    refine r_nil ?_
    exact ob_eq
  apply ob_step
  · intro x w1 k1 hd
    refine r_field rfl ?_
    refine r_nil ?_
    exact ob_eq
  apply ob_step
  · intro x w1 k1 hd
    refine r_load_blk rfl (hgs.to k1) rfl ?_
    refine r_nil ?_
    exact ob_eq
  apply ob_step
  · intro x w1 k1 hd
    refine r_move (by conv => (lhs; whnf)) ?_
    refine r_nil ?_
    exact ob_eq
  apply ob_step
  · intro x w1 k1 hd
    refine r_addI rfl rfl (by omega) (by omega) ?_
    refine r_nil ?_
    exact ob_eq
  apply ob_step
  · intro x w1 k1 hd
    refine r_index_sl rfl rfl (by omega) (by omega) ?_
    refine r_nil ?_
    exact ob_eq
  apply ob_step
  · intro x w1 k1 hd
    refine r_load_tri 2 rfl (by decide) (hgc.to k1) rfl ?_
    refine r_nil ?_
    exact ob_eq
  refine ob_step (e := ratE S ((1 : Int) : Rat)) ?_ ?_
  · intro x w1 k1 hd
    refine r_call (of_c (z := 1) (hS15.to k1) (by decide) (by decide)) rfl ?_
    rintro v2 w2 ⟨k2, h2⟩
    exact r_nil (ob_of k2 h2)
  refine ob_step (e := ratE S (0 + ((1 : Int) : Rat))) ?_ ?_
  · intro x w1 k1 hd
    refine r_call (rplus_c (va := zTri.val) (hS15.to k1) zTri_rat hd.1 rl_zero (rl_one (by decide))) rfl ?_
    rintro v2 w2 ⟨k2, h2⟩
    exact r_nil (ob_of k2 h2)
  apply ob_step
  · intro x w1 k1 hd
    refine r_index_sl rfl rfl (by omega) (by omega) ?_
    refine r_nil ?_
    exact ob_eq
  refine ob_nil (ob_end ?_)
  intro x w16 k16 hall
  obtain ⟨t16, hv16, h16, p1, p2, p3⟩ := RatV.tri (show RatV S w16 (x 23) (0 + ((1 : Int) : Rat)) from hall.2.1)
  replace hgs := hgs.to k16
  replace hgc := hgc.to k16
  replace hgo := hgo.to k16
  replace hgg := hgg.to k16
  replace hn0 := hn0.to k16
  replace hn1 := hn1.to k16
  replace h3 := h3.to k16
  replace hn3 := hn3.to k16
  replace k := k.trans k16
  refine r_store_tri (u := t16) 2 rfl (by decide) hv16 hgc (by simp) p1 p2 p3 ?_
  intro w17 k17 hgc17
  replace k := k.past k17 hgcle
  have hne5 : gc ≠ gg := hgc.ne hgg (by decide)
  replace hn0 := hn0.wrT k17 hgc (by decide)
  replace hn1 := hn1.wrT k17 hgc (by decide)
  replace h3 := h3.wrT k17 hgc (by decide)
  replace hn3 := hn3.wrT k17 hgc (by decide)
  replace h16 := h16.wrT k17 hgc (by decide)
  replace hgs := hgs.wr k17 (by omega)
  replace hgo := hgo.wr k17 (by omega)
  replace hgg := hgg.wr k17 (by omega)
  replace hgc : Blk w17 gc 34 (flat [zTri, zTri, t16, zTri]) := hgc17
  clear k16 k17 hgc17 hall
  have hS17 := hS.to k
  repeat (first | refine r_nil ?_ | refine q_then ?_)
  refine wp_drawn 6 (by kernel_rfl) (by kernel_rfl) ?_
  apply ob_step
  · intro x w1 k1 hd
    refine r_move (by conv => (lhs; whnf)) ?_
    refine r_nil ?_
    exact ob_eq
  apply ob_step
  · intro x w1 k1 hd
    refine r_nilCheck rfl ?_
    refine r_nil ?_
    exact ob_eq
  apply ob_step
  · intro x w1 k1 hd
    refine r_field rfl ?_
    refine r_nil ?_
    exact ob_eq
  apply ob_step
  · intro x w1 k1 hd
    refine r_load_blk rfl (hgs.to k1) rfl ?_
    refine r_nil ?_
    exact ob_eq
  refine ob_step (e := ratE S ((1 : Int) : Rat)) ?_ ?_
  · intro x w1 k1 hd
    refine r_call (of_c (z := 1) (hS17.to k1) (by decide) (by decide)) rfl ?_
    rintro v2 w2 ⟨k2, h2⟩
    exact r_nil (ob_of k2 h2)
  apply ob_step
  · intro x w1 k1 hd
    refine r_move (by conv => (lhs; whnf)) ?_
    refine r_nil ?_
    exact ob_eq
  refine ob_nil (ob_end ?_)
  intro x w18 k18 hall
  have h18 : RatV S w18 (x 4) ((1 : Int) : Rat) := hall.2.1
  replace hgs := hgs.to k18
  replace hgc := hgc.to k18
  replace hgo := hgo.to k18
  replace hgg := hgg.to k18
  replace hn0 := hn0.to k18
  replace hn1 := hn1.to k18
  replace h3 := h3.to k18
  replace hn3 := hn3.to k18
  replace h16 := h16.to k18
  replace k := k.trans k18
  refine r_call (take_c (nd := 4) (nf := 4) (td := [zTri, zTri, t16, zTri]) (tf := [n0, n1, t3, n3]) (ld := [0, 0, 0 + ((1 : Int) : Rat), 0]) (lf := [-1, -1, ((1 : Int) : Rat), - (-1)]) (hS.to k) h18 (rl_one (by decide)) hgc ⟨zTri_rat, zTri_rat, h16, zTri_rat, trivial⟩ small_d hgo (show Rats S w18 [n0, n1, t3, n3] [-1, -1, ((1 : Int) : Rat), - (-1)] from ⟨hn0, hn1, h3, hn3, trivial⟩) (show 4 ≤ 4 by decide) small_f (by omega) rfl (show 4 ≤ 4 by decide) (show 4 ≤ 1000000000 by decide)) rfl ?_
  rintro v19 w19 ⟨k19, tc, hgc19, hr19⟩
  replace k := k.past k19 hgcle
  replace hgs := hgs.wr k19 (by omega)
  replace hgg := hgg.wr k19 (by omega)
  repeat (first | refine unr_step ?_ | refine wp_seq_region ?_ | refine wp_region ?_ | refine r_move (by conv => (lhs; whnf)) ?_ | refine r_assign (by conv => (lhs; whnf)) ?_ | refine r_nil ?_ | refine q_then ?_ | refine wp_ret ?_ | refine wp_exit ?_ | refine r_lss rfl rfl ?_ | refine r_addI rfl rfl (by omega) (by omega) ?_ | refine wp_if_no rfl (by omega) ?_)
  refine end_tmp rfl (by conv => (lhs; whnf)) ⟨k, gs, gc, gg, capg, rows, basic, tc, rfl, hgs, hgc19, ?_, cs, hgg⟩
  rw [take_eq] at hr19
  exact hr19
end Go.Proofs.YtpmnjjmngogkkaaGreatDoor
end

section
set_option linter.unusedVariables false
set_option linter.unusedSimpArgs false
namespace Go.Proofs.YtpmnjjmngogkkaaGreatDoor
open Go Go.RowKit
theorem short_one : Short 1 := by unfold Short; exact ⟨by decide +kernel, by decide +kernel⟩
theorem short_neg : Short (-1) := by unfold Short; exact ⟨by decide +kernel, by decide +kernel⟩
/-- s[:h] of a slice. -/
theorem r_slice_h {P : Program} {n : Nat} {Q : Post} {ρ : Fr} {w : World} {all rest : List Oper} {d : Tmp} {ty : TypeId} {pos : String} {aft : Array Edge} {t T : TypeId} [st : SlT P t T] {s b : Nat} {z : Value} {agg : Bool} [ti : TyI P T s b z agg]
    {x hi : Operand} {g m cap k : Nat} {i : Int} (hx : ev ρ x = .slice (some ⟨g, 0, none⟩) m cap) (hh : ev ρ hi = .int .i64 i) (hik : i = (k : Int)) (hk : k ≤ cap) (hc : 0 < cap)
    (h : WpR P n all Q rest (upd ρ d (.slice (some ⟨g, 0, none⟩) k cap)) w) : WpR P n all Q (⟨some d, .slice t x none (some hi) none, ty, pos, aft, none⟩ :: rest) ρ w := by
  refine r_val rfl rfl ?_ h
  subst hik
  simp [execOp, hx, hh, Instr.sliceAt, Instr.slice, run_underlying st.und, Instr.sliceBounds, Instr.sliceBound, asIntOf, hk, ti.runSize w, Addr.add, show ¬ cap = 0 by omega]
theorem fill_three {pl : Nat → Option (Nat × Nat)} {zs : List Value} {i off : Nat} {u : Tri} {r : List (Nat × Value)} {o : Option (Array Value)} (hp : pl i = some (off, 3)) (ho : off + 2 < zs.length)
    (h : Instr.fill pl (((zs.set off u.1).set (off + 1) u.2.1).set (off + 2) u.2.2).toArray r = o) : Instr.fill pl zs.toArray ((i, u.val) :: r) = o := by
  have hc : u.val.cells = #[u.1, u.2.1, u.2.2] := rfl
  unfold Instr.fill
  simp only [hp, hc]
  have e : (#[u.1, u.2.1, u.2.2].size ≠ 3 || decide (off + #[u.1, u.2.1, u.2.2].size > zs.toArray.size)) = false := by simp; omega
  rw [if_neg (by rw [e]; simp)]
  subst h
  simp [Array.zipIdx]
theorem len3 {l : List Value} {a b c : Value} (h : l.length = 3) : ((l.set 0 a).set 1 b).set 2 c = [a, b, c] := by
  match l, h with
  | [_, _, _], _ => rfl
theorem len6 {l : List Value} {a b c d e f : Value} (h : l.length = 6) : (((((l.set 0 a).set 1 b).set 2 c).set 3 d).set 4 e).set 5 f = [a, b, c, d, e, f] := by
  match l, h with
  | [_, _, _, _, _, _], _ => rfl
section
variable {P : Program} {n : Nat} {Q : Post} {ρ : Fr} {w : World} {all rest : List Oper} {d : Tmp} {ty : TypeId} {pos : String} {aft : Array Edge} {t T : TypeId}
theorem r_lit_tri1 [st : SlT P t T] {b : Nat} {z : Value} {agg : Bool} [ti : TyI P T 3 b z agg] {x : Operand} {u : Tri} (hx : ev ρ x = u.val) (h1 : u.1.oneCell' = true) (h2 : u.2.1.oneCell' = true) (h3 : u.2.2.oneCell' = true)
    (h : ∀ w' g, Ext w w' → Blk w' g T (flat [u]) → w.heap.size ≤ g → WpR P n all Q rest (upd ρ d (.slice (some ⟨g, 0, none⟩) 1 1)) w') :
    WpR P n all Q (⟨some d, .buildSlice t 1 #[(0, x)], ty, pos, aft, none⟩ :: rest) ρ w := by
  refine r_valw (w' := w.alloc (.cells (flat [u]).toArray T)) rfl rfl ?_ (h _ w.heap.size (ext_alloc _ _) (Blk.new _ _ _) (Nat.le_refl _))
  have hf : Instr.fill (fun i => some (i * 3, 3)) ((Array.range (1 * 3)).map (z.cells[· % z.cells.size]!)) [(0, u.val)] = some (flat [u]).toArray := by
    have e : (Array.range (1 * 3)).map (z.cells[· % z.cells.size]!) = ((Array.range (1 * 3)).map (z.cells[· % z.cells.size]!)).toList.toArray := (Array.toArray_toList ..).symm
    rw [e]
    refine fill_three rfl (by simp) ?_
    rw [len3 (by simp)]
    rfl
  simp [execOp, hx, Instr.buildSlice, run_underlying st.und, ti.runSize w, ti.runZero w, newRow] at hf ⊢
  simp [hf]
theorem r_lit_tri2 [st : SlT P t T] {b : Nat} {z : Value} {agg : Bool} [ti : TyI P T 3 b z agg] {x y : Operand} {u v : Tri} (hx : ev ρ x = u.val) (hy : ev ρ y = v.val)
    (h : ∀ w' g, Ext w w' → Blk w' g T (flat [u, v]) → w.heap.size ≤ g → WpR P n all Q rest (upd ρ d (.slice (some ⟨g, 0, none⟩) 2 2)) w') :
    WpR P n all Q (⟨some d, .buildSlice t 2 #[(0, x), (1, y)], ty, pos, aft, none⟩ :: rest) ρ w := by
  refine r_valw (w' := w.alloc (.cells (flat [u, v]).toArray T)) rfl rfl ?_ (h _ w.heap.size (ext_alloc _ _) (Blk.new _ _ _) (Nat.le_refl _))
  have hf : Instr.fill (fun i => some (i * 3, 3)) ((Array.range (2 * 3)).map (z.cells[· % z.cells.size]!)) [(0, u.val), (1, v.val)] = some (flat [u, v]).toArray := by
    have e : (Array.range (2 * 3)).map (z.cells[· % z.cells.size]!) = ((Array.range (2 * 3)).map (z.cells[· % z.cells.size]!)).toList.toArray := (Array.toArray_toList ..).symm
    rw [e]
    refine fill_three rfl (by simp) ?_
    refine fill_three rfl (by simp) ?_
    rw [len6 (by simp)]
    rfl
  simp [execOp, hx, hy, Instr.buildSlice, run_underlying st.und, ti.runSize w, ti.runZero w, newRow] at hf ⊢
  simp [hf]
end
theorem run_c {S : Nat → Prop} {w : World} {gs gc : Nat} {rows basic sg : Value} {tc : List Tri} (hgs : Blk w gs 169 [rows, .slice (some ⟨gc, 0, none⟩) 4 4, basic, .int .i64 2, sg])
    (hgc : Blk w gc 34 (flat tc)) (hr : Rats S w tc [1, 1, 0, -1]) :
    Gives Tryz.prog 135 [.pointer (some ⟨gs, 0, none⟩)] w fun v' w' => Ext w w' := by
  have hlen : tc.length = 4 := hr.length
  have hr3 : Rats S w (tc.take 3) [1, 1, 0] := by
    match tc, hr with
    | [a, b, c, d], ⟨h1, h2, h3, h4, _⟩ => exact ⟨h1, h2, h3, trivial⟩
  refine gives_of Tryz.func135 rfl rfl rfl ?_
  repeat (first | refine r_load_blk rfl hgs rfl ?_ | refine wp_seq_region ?_ | refine wp_region ?_ | refine r_move (by conv => (lhs; whnf)) ?_ | refine r_assign (by conv => (lhs; whnf)) ?_ | refine r_nil ?_ | refine q_then ?_ | refine r_len_sl rfl ?_ | refine r_subI rfl rfl (by omega) (by omega) ?_ | refine r_field rfl ?_ | refine r_nilCheck rfl ?_)
  try refine wp_seq_block ?_
  refine unr_for 2 ?_
  repeat (first | refine unr_step ?_ | refine r_load_blk rfl hgs rfl ?_ | refine wp_seq_region ?_ | refine wp_region ?_ | refine r_move (by conv => (lhs; whnf)) ?_ | refine wp_block_seq ?_ | refine r_field rfl ?_ | refine r_nilCheck rfl ?_)
  refine r_slice_h (k := 3) rfl rfl rfl (by decide) (by decide) ?_
  refine r_call (index_c (first := []) (caps := []) (l := [1, 1, 0]) (fun q => q.num.sign < 0) hgc hr3 (by omega) (by decide) (fun w' v q k h _ => neg_test_c h)) rfl ?_
  rintro v2 w2 ⟨⟨i, rfl, hi⟩, k2⟩
  have hi1 : i = -1 := by
    rcases hi with ⟨h, _⟩ | ⟨k, q, _, hq, hp, _⟩
    · exact h
    · have := List.mem_of_getElem? hq
      simp only [List.mem_cons, List.not_mem_nil, or_false] at this
      rcases this with rfl | rfl | rfl <;> exact absurd hp (by decide)
  subst hi1
  repeat (first | refine wp_seq_region ?_ | refine wp_seq_seq ?_ | refine wp_region ?_ | refine r_move (by conv => (lhs; whnf)) ?_ | refine r_assign (by conv => (lhs; whnf)) ?_ | refine r_nil ?_ | refine q_then ?_ | refine wp_ret ?_ | refine q_then_ret ?_ | refine q_block_ret ?_ | refine r_lss rfl rfl ?_ | refine wp_cond_yes rfl (by omega) ?_)
  exact ⟨[], rfl, k2⟩
theorem refuse_c {S : Nat → Prop} {w : World} {gl gr gb capb : Nat} {t1 t2 tb : Tri} (hS : Up S w) (ht : Tab w) (hl : Blk w gl 95 [.slice (some ⟨gr, 0, none⟩) 2 2])
    (hb : Blk w gr 34 (flat [t1, t2])) (h1 : RatV S w t1.val 1) (h2 : RatV S w t2.val 1) (hbb : Blk w gb 34 (flat [tb])) (hB : RatV S w tb.val (-1)) :
    Gives Tryz.prog 77 [.slice (some ⟨gl, 0, none⟩) 1 1, .slice (some ⟨gb, 0, none⟩) 1 capb] w fun v' w' => Ext w w' ∧ ∃ gv capv tv cs, v' = .tuple #[.slice (some ⟨gv, 0, none⟩) 1 capv, .bool true] ∧ Blk w' gv 34 (tv.1 :: tv.2.1 :: tv.2.2 :: cs) ∧ RatV S w' (Tri.val tv) 1 := by
  refine gives_of Tryz.func77 rfl rfl rfl ?_
  repeat (first | refine wp_seq_region ?_ | refine wp_seq_seq ?_ | refine wp_region ?_ | refine r_move (by conv => (lhs; whnf)) ?_ | refine r_assign (by conv => (lhs; whnf)) ?_ | refine r_nil ?_)
  refine r_call (check_c (mb := 0) (ts := [t1, t2]) (l := [1, 1]) (tb := [tb]) (lb := [-1]) hS ht hl hb ⟨h1, h2, trivial⟩ (show 2 ≤ 2 by decide) (by decide) ?_ hbb ⟨hB, trivial⟩ (show 1 ≤ 1 by decide) ?_) rfl ?_
  · intro q hq
    simp only [List.mem_cons, List.not_mem_nil, or_false] at hq
    rcases hq with rfl | rfl <;> exact short_one
  · intro q hq
    simp only [List.mem_cons, List.not_mem_nil, or_false] at hq
    subst hq
    exact short_neg
  rintro v1 w1 ⟨rfl, k1⟩
  repeat (first | refine wp_seq_region ?_ | refine wp_region ?_ | refine r_move (by conv => (lhs; whnf)) ?_ | refine r_nil ?_ | refine q_then ?_ | refine wp_skip ?_ | refine r_neq rfl rfl ?_ | refine wp_cond_no rfl (by omega) ?_)
  refine r_call (simplex_c (hS.to k1) (ht.to k1) (hl.to k1) (hb.to k1) (h1.to k1) (h2.to k1) (hbb.to k1) (hB.to k1)) rfl ?_
  rintro v2 w2 ⟨k2, gs, gc, gg, capg, rows, basic, tc, rfl, hgs, hgc, hrc, cs, hgg⟩
  repeat (first | refine wp_seq_region ?_ | refine wp_region ?_ | refine r_move (by conv => (lhs; whnf)) ?_ | refine r_assign (by conv => (lhs; whnf)) ?_ | refine r_nil ?_)
  refine r_call (run_c hgs hgc hrc) rfl ?_
  rintro v3 w3 k3
  replace hgs := hgs.to k3
  replace hgc := hgc.to k3
  replace hgg := hgg.to k3
  replace hrc := hrc.to k3
  have k := (k1.trans k2).trans k3
  have hS3 := hS.to k
  clear k1 k2 k3
  match tc, hrc with
  | [a, b, c, d], ⟨ha, hb', hc, hdd, _⟩ =>
  repeat (first | refine wp_seq_region ?_ | refine wp_seq_seq ?_ | refine r_nil ?_)
  refine wp_drawn 13 (by kernel_rfl) (by kernel_rfl) ?_
  apply ob_step
  · intro x w1 k1 hd
    refine r_move (by conv => (lhs; whnf)) ?_
    refine r_nil ?_
    exact ob_eq
  apply ob_step
  · intro x w1 k1 hd
    refine r_nilCheck rfl ?_
    refine r_nil ?_
    exact ob_eq
  apply ob_step
  · intro x w1 k1 hd
    refine r_field rfl ?_
    refine r_nil ?_
    exact ob_eq
  apply ob_step
  · intro x w1 k1 hd
    refine r_load_blk rfl (hgs.to k1) rfl ?_
    refine r_nil ?_
    exact ob_eq
  apply ob_step
  · intro x w1 k1 hd
    refine r_move (by conv => (lhs; whnf)) ?_
    refine r_nil ?_
    exact ob_eq
  apply ob_step
  · intro x w1 k1 hd
    refine r_nilCheck rfl ?_
    refine r_nil ?_
    exact ob_eq
  apply ob_step
  · intro x w1 k1 hd
    refine r_field rfl ?_
    refine r_nil ?_
    exact ob_eq
  apply ob_step
  · intro x w1 k1 hd
    refine r_load_blk rfl (hgs.to k1) rfl ?_
    refine r_nil ?_
    exact ob_eq
  apply ob_step
  · intro x w1 k1 hd
    refine r_len_sl rfl ?_
    refine r_nil ?_
    exact ob_eq
  apply ob_step
  · intro x w1 k1 hd
    refine r_subI rfl rfl (by omega) (by omega) ?_
    refine r_nil ?_
    exact ob_eq
  apply ob_step
  · intro x w1 k1 hd
    refine r_index_sl rfl rfl (by omega) (by omega) ?_
    refine r_nil ?_
    exact ob_eq
  apply ob_step
  · intro x w1 k1 hd
    refine r_load_tri 3 rfl (by decide) (hgc.to k1) rfl ?_
    refine r_nil ?_
    exact ob_eq
  refine ob_step (e := Ent.eq (.int .i64 (-1 : Rat).num.sign)) ?_ ?_
  · intro x w1 k1 hd
    refine r_call (rsign_c (v := d.val) (hdd.to k1)) rfl ?_
    rintro v2 w2 ⟨rfl, k2⟩
    exact r_nil (ob_eq_to k2)
  refine ob_nil (ob_end ?_)
  intro x w4 k4 hall
  replace hgs := hgs.to k4
  replace hgc := hgc.to k4
  replace hgg := hgg.to k4
  replace hc := hc.to k4
  replace k := k.trans k4
  have hS4 := hS3.to k4
  clear k4 hall
  repeat (first | refine r_nil ?_ | refine q_then ?_ | refine r_eql rfl rfl ?_)
  first | refine wp_cond_no rfl (by decide) ?_ | refine wp_if_no rfl (by decide) ?_ | skip
  repeat (first | refine r_load_blk rfl hgs rfl ?_ | refine wp_seq_region ?_ | refine wp_seq_seq ?_ | refine wp_region ?_ | refine r_move (by conv => (lhs; whnf)) ?_ | refine r_assign (by conv => (lhs; whnf)) ?_ | refine r_nil ?_ | refine q_then ?_ | refine wp_skip ?_ | refine r_len_sl rfl ?_ | refine r_field rfl ?_ | refine r_nilCheck rfl ?_)
  try refine wp_seq_block ?_
  refine unr_for 3 ?_
  repeat (first | refine unr_step ?_ | refine r_load_blk rfl hgg rfl ?_ | refine wp_seq_region ?_ | refine wp_seq_bseq ?_ | refine wp_region ?_ | refine r_move (by conv => (lhs; whnf)) ?_ | refine r_assign (by conv => (lhs; whnf)) ?_ | refine r_nil ?_ | refine q_then ?_ | refine wp_block_seq ?_ | refine wp_skip ?_ | refine r_lss rfl rfl ?_ | refine r_index_sl rfl rfl (by omega) (by omega) ?_ | refine wp_if_yes rfl (by omega) ?_)
  refine wp_drawn 15 (by kernel_rfl) (by kernel_rfl) ?_
  apply ob_step
  · intro x w1 k1 hd
    refine r_move (by conv => (lhs; whnf)) ?_
    refine r_nil ?_
    exact ob_eq
  apply ob_step
  · intro x w1 k1 hd
    refine r_nilCheck rfl ?_
    refine r_nil ?_
    exact ob_eq
  apply ob_step
  · intro x w1 k1 hd
    refine r_field rfl ?_
    refine r_nil ?_
    exact ob_eq
  apply ob_step
  · intro x w1 k1 hd
    refine r_load_blk rfl (hgs.to k1) rfl ?_
    refine r_nil ?_
    exact ob_eq
  apply ob_step
  · intro x w1 k1 hd
    refine r_move (by conv => (lhs; whnf)) ?_
    refine r_nil ?_
    exact ob_eq
  apply ob_step
  · intro x w1 k1 hd
    refine r_nilCheck rfl ?_
    refine r_nil ?_
    exact ob_eq
  apply ob_step
  · intro x w1 k1 hd
    refine r_field rfl ?_
    refine r_nil ?_
    exact ob_eq
  apply ob_step
  · intro x w1 k1 hd
    refine r_load_blk rfl (hgs.to k1) rfl ?_
    refine r_nil ?_
    exact ob_eq
  apply ob_step
  · intro x w1 k1 hd
    refine r_move (by conv => (lhs; whnf)) ?_
    refine r_nil ?_
    exact ob_eq
  apply ob_step
  · intro x w1 k1 hd
    refine r_addI rfl rfl (by omega) (by omega) ?_
    refine r_nil ?_
    exact ob_eq
  apply ob_step
  · intro x w1 k1 hd
    refine r_index_sl rfl rfl (by omega) (by omega) ?_
    refine r_nil ?_
    exact ob_eq
  apply ob_step
  · intro x w1 k1 hd
    refine r_load_tri 2 rfl (by decide) (hgc.to k1) rfl ?_
    refine r_nil ?_
    exact ob_eq
  refine ob_step (e := ratE S ((1 : Int) : Rat)) ?_ ?_
  · intro x w1 k1 hd
    refine r_call (of_c (z := 1) (hS4.to k1) (by decide) (by decide)) rfl ?_
    rintro v2 w2 ⟨k2, h2⟩
    exact r_nil (ob_of k2 h2)
  refine ob_step (e := ratE S (0 - ((1 : Int) : Rat))) ?_ ?_
  · intro x w1 k1 hd
    refine r_call (rminus_c (va := c.val) (hS4.to k1) (hc.to k1) hd.1 rl_zero (rl_one (by decide))) rfl ?_
    rintro v2 w2 ⟨k2, h2⟩
    exact r_nil (ob_of k2 h2)
  refine ob_step (e := Ent.of (fun v w => ∃ g, v = .pointer (some ⟨g, 0, none⟩) ∧ Blk w g 34 [.bool false, .slice none 0 0, .slice none 0 0] ∧ w4.heap.size ≤ g) (fun v w w' ⟨g, h, hb, hg⟩ k => ⟨g, h, hb.to k, hg⟩)) ?_ ?_
  · intro x w1 k1 hd
    refine r_alloc (cs := [.bool false, .slice none 0 0, .slice none 0 0]) rfl ?_
    intro w2 g k2 hg hgs
    exact r_nil (ob_of k2 ⟨g, rfl, hg, by have := k1.size; omega⟩)
  refine ob_nil (ob_end ?_)
  intro x5 w5 k5 hall
  obtain ⟨gx, hvx, hgx, hgxs⟩ : ∃ g, x5 14 = .pointer (some ⟨g, 0, none⟩) ∧ Blk w5 g 34 [.bool false, .slice none 0 0, .slice none 0 0] ∧ w4.heap.size ≤ g := hall.1
  obtain ⟨t5, hv5, h5, o1, o2, o3⟩ := RatV.tri (show RatV S w5 (x5 13) (0 - ((1 : Int) : Rat)) from hall.2.1)
  refine r_learn 10 hvx ?_
  refine r_store3 rfl hv5 hgx rfl o1 o2 o3 ?_
  intro w6 k6 hgx6
  have hk := k.size
  replace k := (k.trans k5).past k6 (by omega)
  replace h5 := h5.wrT k6 hgx (by decide)
  replace hgx : Blk w6 gx 34 (flat [t5]) := hgx6
  have hS6 := hS.to k
  clear k5 k6 hgx6 hall hgs hgc hgg
  repeat (first | refine wp_seq_region ?_ | refine wp_seq_seq ?_ | refine wp_region ?_ | refine r_move (by conv => (lhs; whnf)) ?_ | refine r_nil ?_ | refine q_then ?_ | refine wp_cond_true rfl ?_)
  repeat (first | refine r_load_tri 0 rfl (by decide) hgx rfl ?_)
  refine r_call (rneg_c (v := t5.val) h5) rfl ?_
  rintro v7 w7 ⟨k7, hn⟩
  obtain ⟨n7, rfl, hn, p1, p2, p3⟩ := RatV.tri hn
  replace hgx := hgx.to k7
  skip
  refine r_store3 rfl rfl hgx rfl p1 p2 p3 ?_
  intro w8 k8 hgx8
  replace k := (k.trans k7).past k8 (by omega)
  replace hn := hn.wrT k8 hgx (by decide)
  replace hgx : Blk w8 gx 34 (flat [n7]) := hgx8
  clear k7 k8 hgx8
  repeat (first | refine r_load_tri 0 rfl (by decide) hgx rfl ?_ | refine wp_region ?_ | refine r_move (by conv => (lhs; whnf)) ?_ | refine r_nil ?_)
  refine r_lit_tri1 (u := n7) rfl p1 p2 p3 ?_
  intro w9 g9 k9 hg9 hgs9
  have hb9 := hg9.lt
  skip
  refine r_append1 (base := g9) (m := 0) (xs := []) (cs := [n7.1, n7.2.1, n7.2.2]) rfl own_nil rfl hg9 (show 0 < 3 by decide) rfl (ones3 p1 p2 p3) (by decide) (by decide) (by omega) ?_
  intro vw w10 hvw k10
  have k10' : Ext w9 w10 := k10.mono fun i _ e => by cases e
  obtain ⟨gv, capv, cv, rfl, hgv⟩ : ∃ gv capv cs, vw = .slice (some ⟨gv, 0, none⟩) 1 capv ∧ Blk w10 gv 34 (n7.1 :: n7.2.1 :: n7.2.2 :: cs) := by
    rcases hvw.2 with ⟨hv, h0⟩ | ⟨g, cap, cur, hv, hb, hg, hn, hm, hc, htk⟩
    · omega
    · have hcur : cur.toList = n7.1 :: n7.2.1 :: n7.2.2 :: cur.toList.drop 3 := by
        have e1 : cur.toList.take 3 = [n7.1, n7.2.1, n7.2.2] := htk
        rw [← List.take_append_drop 3 cur.toList, e1]
        simp
      refine ⟨g, cap, cur.toList.drop 3, hv, ?_⟩
      unfold Blk
      rw [← hcur]
      simpa using hg
  clear hvw k10
  replace hn := (hn.to k9).to k10'
  repeat (first | refine unr_step ?_ | refine wp_seq_region ?_ | refine wp_region ?_ | refine r_move (by conv => (lhs; whnf)) ?_ | refine r_assign (by conv => (lhs; whnf)) ?_ | refine r_nil ?_ | refine q_then ?_ | refine wp_ret ?_ | refine wp_exit ?_ | refine r_lss rfl rfl ?_ | refine r_addI rfl rfl (by omega) (by omega) ?_ | refine wp_if_no rfl (by omega) ?_)
  refine end_tmp2 rfl (by conv => (lhs; whnf)) (by conv => (lhs; whnf)) ⟨(k.trans k9).trans k10', gv, capv, n7, cv, rfl, hgv, ?_⟩
  have e : - (0 - ((1 : Int) : Rat)) = 1 := by decide +kernel
  rwa [e] at hn
end Go.Proofs.YtpmnjjmngogkkaaGreatDoor
end

section
set_option linter.unusedVariables false
set_option linter.unusedSimpArgs false
namespace Go.Proofs.YtpmnjjmngogkkaaGreatDoor
open Go Go.RowKit
theorem big_pos : 1000 < Big := Nat.lt_of_lt_of_le (by decide) (Nat.le_trans (pow_mono_b (i := 2) (j := 3344) (by decide)) big_low)
def third : Rat := mkRat (1 * (3 : Int).sign) (3 : Int).natAbs
def sixth : Rat := mkRat (1 * (6 : Int).sign) (6 : Int).natAbs
theorem half_num : (third + sixth).num = 1 := by decide +kernel
theorem half_den : (third + sixth).den = 2 := by decide +kernel
theorem half_fits : Fits (third + sixth) := by
  have := big_pos
  unfold Fits
  rw [half_num, half_den]
  exact ⟨by show 1 < _; omega, by omega⟩
theorem half_str : rstr (third + sixth) = [49, 47, 50] := by
  unfold rstr Lib.itoa
  rw [half_num, half_den, if_neg (by decide), if_neg (by decide), show (1 : Int).toNat = 1 from rfl, Lib.decDigits_one (by decide), Lib.decDigits_one (by decide)]
  rfl
theorem q_str : Lib.itoa (-7 / 2) = [45, 52] := by
  rw [show (-7 / 2 : Int) = -4 by decide]
  unfold Lib.itoa
  rw [if_pos (by decide), show (-4 : Int).natAbs = 4 from rfl, Lib.decDigits_one (by decide)]
  rfl
theorem r_str : Lib.itoa (-7 % 2) = [49] := by
  rw [show (-7 % 2 : Int) = 1 by decide]
  unfold Lib.itoa
  rw [if_neg (by decide), show (1 : Int).toNat = 1 from rfl, Lib.decDigits_one (by decide)]
  rfl
theorem rl_of {q : Rat} {n m : Nat} (hn : 0 < n) (h1 : q.num.natAbs < 1000000000) (h2 : q.den < 1000000000) : rl q n := by
  have h : ∀ a, a < 1000000000 → dl a ≤ n := fun a ha => Nat.le_trans (dl_le (k := 1) (by omega)) hn
  exact ⟨h _ h1, h _ h2⟩
set_option maxRecDepth 100000 in
set_option maxHeartbeats 8000000 in
theorem awake_c {w : World} (ht : Tab w) : Gives Tryz.prog 20 [] w fun v' w' => v' = .bool true ∧ Ext w w' := by
  have hS : Up All w := Up.all
  refine gives_of Tryz.func20 rfl rfl rfl ?_
  repeat (first | refine wp_seq_region ?_ | refine wp_region ?_ | refine r_assign (by conv => (lhs; whnf)) ?_ | refine r_nil ?_)
  refine r_call (make_c (a := 1) (b := 3) hS (by decide) (by decide) (by decide) (by decide) (by decide)) rfl ?_
  rintro v1 w1 ⟨v, rfl, k, h1⟩
  replace h1 : RatV All w1 v third := h1
  obtain ⟨t1, rfl, h1, o11, o12, o13⟩ := RatV.tri h1
  repeat (first | refine r_move (by conv => (lhs; whnf)) ?_ | refine r_extract rfl rfl ?_)
  refine r_alloc (cs := [.bool false, .slice none 0 0, .slice none 0 0]) rfl ?_
  intro w2 g1 k2 hg1 hgs1
  have hsz1 := k.size
  replace h1 := h1.to k2
  refine r_store3 rfl rfl hg1 rfl o11 o12 o13 ?_
  intro w3 k3 hg13
  replace h1 := h1.wrT k3 hg1 (by decide)
  replace k := (k.trans k2).past k3 (by omega)
  replace hg1 : Blk w3 g1 34 (flat [t1]) := hg13
  clear k2 k3 hg13
  repeat (first | refine wp_seq_region ?_ | refine wp_region ?_ | refine r_assign (by conv => (lhs; whnf)) ?_ | refine r_nil ?_)
  refine r_call (make_c (a := 1) (b := 6) (hS.to k) (by decide) (by decide) (by decide) (by decide) (by decide)) rfl ?_
  rintro v4 w4 ⟨v, rfl, k4, h2⟩
  replace h2 : RatV All w4 v sixth := h2
  obtain ⟨t2, rfl, h2, o21, o22, o23⟩ := RatV.tri h2
  have hl1 := hg1.lt
  have hsz4 := k4.size
  replace hg1 := hg1.to k4
  replace h1 := h1.to k4
  replace k := k.trans k4
  repeat (first | refine r_move (by conv => (lhs; whnf)) ?_ | refine r_extract rfl rfl ?_)
  refine r_alloc (cs := [.bool false, .slice none 0 0, .slice none 0 0]) rfl ?_
  intro w5 g2 k5 hg2 hgs2
  replace hg1 := hg1.to k5
  replace h1 := h1.to k5
  replace h2 := h2.to k5
  refine r_store3 rfl rfl hg2 rfl o21 o22 o23 ?_
  intro w6 k6 hg26
  have hsz := k.size
  replace h1 := h1.wrT k6 hg2 (by decide)
  replace h2 := h2.wrT k6 hg2 (by decide)
  replace hg1 := hg1.wr k6 (by omega)
  replace k := (k.trans k5).past k6 (by omega)
  replace hg2 : Blk w6 g2 34 (flat [t2]) := hg26
  clear k4 k5 k6 hg26
  repeat (first | refine r_load_tri 0 rfl (by decide) hg1 rfl ?_ | refine r_load_tri 0 rfl (by decide) hg2 rfl ?_ | refine wp_seq_region ?_ | refine wp_region ?_ | refine r_assign (by conv => (lhs; whnf)) ?_ | refine r_nil ?_)
  refine r_call (radd_c (hS.to k) h1 h2 (rl_of (m := 0) (by decide) (by decide +kernel) (by decide +kernel)) (rl_of (m := 0) (by decide) (by decide +kernel) (by decide +kernel))) rfl ?_
  rintro v7 w7 ⟨k7, r, e, rfl, hor⟩
  have h3 : e = 0 ∧ RatV All w7 r (third + sixth) := by
    rcases hor with ⟨_, h, h'⟩ | ⟨h, _⟩
    · exact ⟨h, h'⟩
    · exact absurd half_fits h
  clear hor
  obtain ⟨rfl, h3⟩ := h3
  obtain ⟨t3, rfl, h3, o31, o32, o33⟩ := RatV.tri h3
  replace k := k.trans k7
  clear h1 h2 hg1 hg2 o11 o12 o13 o21 o22 o23 k7 hgs1 hgs2 hl1 hsz4
  repeat (first | refine r_move (by conv => (lhs; whnf)) ?_ | refine r_extract rfl rfl ?_)
  refine r_alloc (cs := [.bool false, .slice none 0 0, .slice none 0 0]) rfl ?_
  intro w8 g3 k8 hg3 hgs3
  replace h3 := h3.to k8
  refine r_store3 rfl rfl hg3 rfl o31 o32 o33 ?_
  intro w9 k9 hg39
  have hsz7 := k.size
  replace h3 := h3.wrT k9 hg3 (by decide)
  replace k := (k.trans k8).past k9 (by omega)
  replace hg3 : Blk w9 g3 34 (flat [t3]) := hg39
  clear k8 k9 hg39
  repeat (first | refine wp_seq_region ?_ | refine wp_region ?_ | refine r_assign (by conv => (lhs; whnf)) ?_ | refine r_nil ?_)
  refine r_call (whole_c (z := -7) (hS.to k) (by decide) (by decide)) rfl ?_
  rintro v10 w10 ⟨k10, hz1⟩
  skip
  refine r_call (whole_c (z := 2) ((hS.to k).to k10) (by decide) (by decide)) rfl ?_
  rintro v11 w11 ⟨k11, hz2⟩
  skip
  refine r_call (idiv_c (((hS.to k).to k10).to k11) (hz1.to k11) hz2 (Nat.le_trans (dl_le (k := 1) (by decide)) (by decide)) (Nat.le_trans (dl_le (k := 1) (by decide)) (by decide)) (by decide)) rfl ?_
  rintro v12 w12 ⟨vq, vr, rfl, k12, ⟨mq, rfl, hq⟩, ⟨mr, rfl, hr⟩⟩
  have kk := (k10.trans k11).trans k12
  have hg3l := hg3.lt
  have hszk := kk.size
  replace hg3 := hg3.to kk
  replace h3 := h3.to kk
  replace k := k.trans kk
  clear kk k10 k11 k12 hz1 hz2
  repeat (first | refine r_move (by conv => (lhs; whnf)) ?_ | refine r_extract rfl rfl ?_)
  refine r_alloc (cs := [.bool false, .slice none 0 0]) rfl ?_
  intro w13 g7 k13 hg7 hgs7
  skip
  refine r_alloc (cs := [.bool false, .slice none 0 0]) rfl ?_
  intro w14 g8 k14 hg8 hgs8
  have hg7l := hg7.lt
  replace hg7 := hg7.to k14
  have k134 := k13.trans k14
  replace hg3 := hg3.to k134
  replace h3 := h3.to k134
  replace hq := hq.to k134
  replace hr := hr.to k134
  have hsz12 := k.size
  have hsz13 := k13.size
  replace k := k.trans k134
  refine r_store2 rfl rfl hg7 rfl hq.one ?_
  intro w15 k15 hg75
  replace h3 := h3.wrT k15 hg7 (by decide)
  replace hq := hq.wrT k15 hg7 (by decide)
  replace hr := hr.wrT k15 hg7 (by decide)
  replace hg3 := hg3.wr k15 (by omega)
  replace hg8 := hg8.wr k15 (by omega)
  replace k := k.past k15 (by omega)
  refine r_store2 rfl rfl hg8 rfl hr.one ?_
  intro w16 k16 hg86
  replace h3 := h3.wrT k16 hg8 (by decide)
  replace hq := hq.wrT k16 hg8 (by decide)
  replace hr := hr.wrT k16 hg8 (by decide)
  replace hg7 := hg75.wr k16 (by omega)
  replace hg3 := hg3.wr k16 (by omega)
  replace k := k.past k16 (by omega)
  replace hg8 := hg86
  clear k13 k14 k134 k15 k16 hg75 hg86
  repeat (first | refine wp_seq_region ?_ | refine wp_region ?_ | refine r_assign (by conv => (lhs; whnf)) ?_ | refine r_nil ?_)
  refine r_call (of_c (z := 1) (hS.to k) (by decide) (by decide)) rfl ?_
  rintro v17 w17 ⟨k17, h4⟩
  obtain ⟨t4, rfl, h4, o41, o42, o43⟩ := RatV.tri h4
  have hg7l' := hg7.lt
  have hg8l' := hg8.lt
  have hg3l' := hg3.lt
  have hsz17 := k17.size
  replace hg3 := hg3.to k17
  replace h3 := h3.to k17
  replace hq := hq.to k17
  replace hr := hr.to k17
  replace hg7 := hg7.to k17
  replace hg8 := hg8.to k17
  replace k := k.trans k17
  refine r_alloc (cs := [.bool false, .slice none 0 0, .slice none 0 0]) rfl ?_
  intro w18 g4 k18 hg4 hgs4
  replace hg3 := hg3.to k18
  replace h3 := h3.to k18
  replace hq := hq.to k18
  replace hr := hr.to k18
  replace hg7 := hg7.to k18
  replace hg8 := hg8.to k18
  replace h4 := h4.to k18
  have hszz := k.size
  refine r_store3 rfl rfl hg4 rfl o41 o42 o43 ?_
  intro w19 k19 hg49
  replace h3 := h3.wrT k19 hg4 (by decide)
  replace hq := hq.wrT k19 hg4 (by decide)
  replace hr := hr.wrT k19 hg4 (by decide)
  replace h4 := h4.wrT k19 hg4 (by decide)
  replace hg3 := hg3.wr k19 (by omega)
  replace hg7 := hg7.wr k19 (by omega)
  replace hg8 := hg8.wr k19 (by omega)
  replace k := (k.trans k18).past k19 (by omega)
  replace hg4 : Blk w19 g4 34 (flat [t4]) := hg49
  clear k17 k18 k19 hg49 hgs4 hgs7 hgs8 hgs3 hg7l hg3l hsz hsz1 hsz7 hsz12 hsz13 hsz17 hszz hszk hg7l' hg8l' hg3l'
  have hS19 := hS.to k
  repeat (first | refine wp_seq_region ?_ | refine r_nil ?_)
  refine wp_drawn 11 (by kernel_rfl) (by kernel_rfl) ?_
  apply ob_step
  · intro x w1 k1 hd
    refine r_load_tri 0 rfl (by decide) (hg4.to k1) rfl ?_
    refine r_nil ?_
    exact ob_eq
  apply ob_step
  · intro x w1 k1 hd
    refine r_load_tri 0 rfl (by decide) (hg4.to k1) rfl ?_
    refine r_nil ?_
    exact ob_eq
  refine ob_step (e := Ent.of (fun v w => ∃ g, v = .slice (some ⟨g, 0, none⟩) 2 2 ∧ Blk w g 34 (flat [t4, t4])) (fun v w w' ⟨g, h, hb⟩ k => ⟨g, h, hb.to k⟩)) ?_ ?_
  · intro x w1 k1 hd
    refine r_lit_tri2 rfl rfl ?_
    intro w2 g k2 hg _
    exact r_nil (ob_of k2 ⟨g, rfl, hg⟩)
  refine ob_step (e := Ent.of (fun v w => ∃ gl gr, v = .slice (some ⟨gl, 0, none⟩) 1 1 ∧ Blk w gl 95 [.slice (some ⟨gr, 0, none⟩) 2 2] ∧ Blk w gr 34 (flat [t4, t4])) (fun v w w' ⟨g, gr, h, hb, hr⟩ k => ⟨g, gr, h, hb.to k, hr.to k⟩)) ?_ ?_
  · intro x w1 k1 hd
    obtain ⟨g, hx, hg⟩ : ∃ g, x 2 = .slice (some ⟨g, 0, none⟩) 2 2 ∧ Blk w1 g 34 (flat [t4, t4]) := hd.1
    refine r_lit1 (v := .slice (some ⟨g, 0, none⟩) 2 2) hx rfl ?_
    intro w2 gl k2 hgl _
    exact r_nil (ob_of k2 ⟨gl, g, rfl, hgl, hg.to k2⟩)
  refine ob_step (e := ratE All ((-1 : Int) : Rat)) ?_ ?_
  · intro x w1 k1 hd
    refine r_call (of_c (z := -1) (hS19.to k1) (by decide) (by decide)) rfl ?_
    rintro v2 w2 ⟨k2, h2⟩
    exact r_nil (ob_of k2 h2)
  refine ob_step (e := Ent.of (fun v w => ∃ (g : Nat) (t : Tri), v = .slice (some ⟨g, 0, none⟩) 1 1 ∧ Blk w g 34 (flat [t]) ∧ RatV All w (Tri.val t) (-1)) (fun v w w' ⟨g, t, h, hb, hr⟩ k => ⟨g, t, h, hb.to k, hr.to k⟩)) ?_ ?_
  · intro x w1 k1 hd
    obtain ⟨t, hx, htr, p1, p2, p3⟩ := RatV.tri (show RatV All w1 (x 4) ((-1 : Int) : Rat) from hd.1)
    refine r_lit_tri1 (u := t) hx p1 p2 p3 ?_
    intro w2 g k2 hg _
    exact r_nil (ob_of k2 ⟨g, t, rfl, hg, htr.to k2⟩)
  refine ob_step (e := Ent.of (fun v w => ∃ (gv capv : Nat) (tv : Tri) (cs : List Value), v = .tuple #[.slice (some ⟨gv, 0, none⟩) 1 capv, .bool true] ∧ Blk w gv 34 (tv.1 :: tv.2.1 :: tv.2.2 :: cs) ∧ RatV All w (Tri.val tv) 1) (fun v w w' ⟨g, c, t, cs, h, hb, hr⟩ k => ⟨g, c, t, cs, h, hb.to k, hr.to k⟩)) ?_ ?_
  · intro x w1 k1 hd
    obtain ⟨gb, tb, hxb, hgb, hB⟩ : ∃ (g : Nat) (t : Tri), x 5 = .slice (some ⟨g, 0, none⟩) 1 1 ∧ Blk w1 g 34 (flat [t]) ∧ RatV All w1 (Tri.val t) (-1) := hd.1
    obtain ⟨gl, gr, hxl, hgl, hgr⟩ : ∃ gl gr, x 3 = .slice (some ⟨gl, 0, none⟩) 1 1 ∧ Blk w1 gl 95 [.slice (some ⟨gr, 0, none⟩) 2 2] ∧ Blk w1 gr 34 (flat [t4, t4]) := hd.2.2.1
    refine r_call (refuse_c (capb := 1) (hS19.to k1) ((ht.to k).to k1) hgl hgr (h4.to k1) (h4.to k1) hgb hB) (args2 hxl hxb) ?_
    rintro v2 w2 ⟨k2, h2⟩
    exact r_nil (ob_of k2 h2)
  refine ob_step (e := Ent.of (fun v w => ∃ (gv capv : Nat) (tv : Tri) (cs : List Value), v = .tuple #[.slice (some ⟨gv, 0, none⟩) 1 capv, .bool true] ∧ Blk w gv 34 (tv.1 :: tv.2.1 :: tv.2.2 :: cs) ∧ RatV All w (Tri.val tv) 1) (fun v w w' ⟨g, c, t, cs, h, hb, hr⟩ k => ⟨g, c, t, cs, h, hb.to k, hr.to k⟩)) ?_ ?_
  · intro x w1 k1 hd
    refine r_move rfl ?_
    exact r_nil (ob_of .refl hd.1)
  refine ob_step (e := Ent.of (fun v w => ∃ (gv capv : Nat) (tv : Tri) (cs : List Value), v = .slice (some ⟨gv, 0, none⟩) 1 capv ∧ Blk w gv 34 (tv.1 :: tv.2.1 :: tv.2.2 :: cs) ∧ RatV All w (Tri.val tv) 1) (fun v w w' ⟨g, c, t, cs, h, hb, hr⟩ k => ⟨g, c, t, cs, h, hb.to k, hr.to k⟩)) ?_ ?_
  · intro x w1 k1 hd
    obtain ⟨gv, capv, tv, cs, hx, hg, hv⟩ : ∃ (gv capv : Nat) (tv : Tri) (cs : List Value), x 7 = .tuple #[.slice (some ⟨gv, 0, none⟩) 1 capv, .bool true] ∧ Blk w1 gv 34 (tv.1 :: tv.2.1 :: tv.2.2 :: cs) ∧ RatV All w1 (Tri.val tv) 1 := hd.1
    refine r_extract hx rfl ?_
    exact r_nil (ob_of .refl ⟨gv, capv, tv, cs, rfl, hg, hv⟩)
  refine ob_step (e := Ent.eq (.bool true)) ?_ ?_
  · intro x w1 k1 hd
    obtain ⟨gv, capv, tv, cs, hx, hg, hv⟩ : ∃ (gv capv : Nat) (tv : Tri) (cs : List Value), x 7 = .tuple #[.slice (some ⟨gv, 0, none⟩) 1 capv, .bool true] ∧ Blk w1 gv 34 (tv.1 :: tv.2.1 :: tv.2.2 :: cs) ∧ RatV All w1 (Tri.val tv) 1 := hd.2.1
    refine r_extract hx rfl ?_
    exact r_nil ob_eq
  refine ob_step (e := Ent.of (fun v w => ∃ (gv capv : Nat) (tv : Tri) (cs : List Value), v = .slice (some ⟨gv, 0, none⟩) 1 capv ∧ Blk w gv 34 (tv.1 :: tv.2.1 :: tv.2.2 :: cs) ∧ RatV All w (Tri.val tv) 1) (fun v w w' ⟨g, c, t, cs, h, hb, hr⟩ k => ⟨g, c, t, cs, h, hb.to k, hr.to k⟩)) ?_ ?_
  · intro x w1 k1 hd
    refine r_assign rfl ?_
    exact r_nil (ob_of .refl hd.2.1)
  refine ob_nil (ob_end ?_)
  intro x w20 k20 hall
  obtain ⟨gv, capv, tv, cs, hxv, hgv, hv⟩ : ∃ (gv capv : Nat) (tv : Tri) (cs : List Value), x 10 = .slice (some ⟨gv, 0, none⟩) 1 capv ∧ Blk w20 gv 34 (tv.1 :: tv.2.1 :: tv.2.2 :: cs) ∧ RatV All w20 (Tri.val tv) 1 := hall.1
  refine r_learn 11 hxv ?_
  replace hg3 := hg3.to k20
  replace h3 := h3.to k20
  replace hq := hq.to k20
  replace hr := hr.to k20
  replace hg7 := hg7.to k20
  replace hg8 := hg8.to k20
  replace k := k.trans k20
  clear hall k20 h4 hg4
  have ht20 := ht.to k
  repeat (first | refine r_load_tri 0 rfl (by decide) hg3 rfl ?_ | refine wp_seq_region ?_ | refine wp_region ?_ | refine r_move (by conv => (lhs; whnf)) ?_ | refine r_assign (by conv => (lhs; whnf)) ?_ | refine r_nil ?_ | refine r_guard_run rfl rfl ?_ | refine r_pick_true rfl (by conv => (lhs; whnf)) ?_ | refine r_eql rfl rfl ?_ | refine r_guard_yes rfl rfl (by omega) ?_)
  refine r_call (rstr_c (v := t3.val) ht20 h3 (rl_of (m := 0) (by decide) (by rw [half_num]; decide) (by rw [half_den]; decide))) rfl ?_
  rintro v21 w21 ⟨rfl, k21⟩
  refine r_guard_run rfl rfl ?_
  refine r_eqlS rfl rfl ?_
  repeat (first | refine r_move (by conv => (lhs; whnf)) ?_ | refine r_pick_true rfl (by conv => (lhs; whnf)) ?_)
  refine r_guard_yes rfl rfl half_str ?_
  repeat (first | refine r_load_all rfl (hg7.to k21) rfl ?_ | refine r_guard_run rfl rfl ?_)
  refine r_call (istr_c (a := -7 / 2) (ht20.to k21) ⟨mq, rfl, hq.to k21⟩ (Nat.le_trans (dl_le (k := 1) (by decide)) (by decide))) rfl ?_
  rintro v22 w22 ⟨rfl, k22⟩
  refine r_guard_run rfl rfl ?_
  refine r_eqlS rfl rfl ?_
  repeat (first | refine r_move (by conv => (lhs; whnf)) ?_ | refine r_pick_true rfl (by conv => (lhs; whnf)) ?_)
  refine r_guard_yes rfl rfl q_str ?_
  repeat (first | refine r_load_all rfl ((hg8.to k21).to k22) rfl ?_ | refine r_guard_run rfl rfl ?_)
  refine r_call (istr_c (a := -7 % 2) ((ht20.to k21).to k22) ⟨mr, rfl, (hr.to k21).to k22⟩ (Nat.le_trans (dl_le (k := 1) (by decide)) (by decide))) rfl ?_
  rintro v23 w23 ⟨rfl, k23⟩
  refine r_guard_run rfl rfl ?_
  refine r_eqlS rfl rfl ?_
  repeat (first | refine r_move (by conv => (lhs; whnf)) ?_ | refine r_pick_true rfl (by conv => (lhs; whnf)) ?_)
  refine r_guard_yes rfl rfl r_str ?_
  repeat (first | refine r_move (by conv => (lhs; whnf)) ?_ | refine r_len_sl rfl ?_ | refine r_guard_run rfl rfl ?_ | refine r_pick_true rfl (by conv => (lhs; whnf)) ?_ | refine r_eql rfl rfl ?_ | refine r_index_sl rfl rfl (by omega) (by omega) ?_ | refine r_guard_yes rfl rfl (by omega) ?_)
  have k3 := (k21.trans k22).trans k23
  replace hgv := hgv.to k3
  replace hv := hv.to k3
  repeat (first | refine r_load_part rfl hgv rfl rfl ?_ | refine r_guard_run rfl rfl ?_)
  refine r_call (rsign_c (v := tv.val) hv) rfl ?_
  rintro v24 w24 ⟨rfl, k24⟩
  repeat (first | refine r_assign (by conv => (lhs; whnf)) ?_ | refine r_nil ?_ | refine q_then ?_ | refine wp_ret ?_ | refine r_guard_run rfl rfl ?_ | refine r_pick_true rfl (by conv => (lhs; whnf)) ?_ | refine r_gtr rfl rfl ?_)
  refine end_tmp rfl (by conv => (lhs; whnf)) ⟨?_, (k.trans k3).trans k24⟩
  exact congrArg Value.bool (tst_true (by decide))
end Go.Proofs.YtpmnjjmngogkkaaGreatDoor
end

section
set_option linter.unusedVariables false
set_option linter.unusedSimpArgs false
namespace Go.Proofs.YtpmnjjmngogkkaaGreatDoor
open Go Go.RowKit
section rules
variable {P : Program} {n : Nat} {Q : Post} {ρ : Fr} {w : World} {all rest : List Oper} {d : Tmp} {ty : TypeId} {pos : String} {aft : Array Edge}
end rules
theorem from_c {S : Nat → Prop} {w : World} {v : Value} {z : Int} (hS : Up S w) (h : IntV S 127 .u32 w v z) :
    Gives Tryz.prog 52 [v] w fun v' w' => Ext w w' ∧ RatV S w' v' (z : Rat) := by
  obtain ⟨m, rfl, hm⟩ := h
  refine gives_of Tryz.func52 rfl rfl rfl ?_
  have k : Ext w w := .refl
  repeat (first | refine wp_seq_region ?_ | refine wp_seq_seq ?_ | refine wp_seq_bregion ?_ | refine wp_seq_bseq ?_ | refine wp_seq_skip ?_ | refine wp_region ?_ | refine r_move (by conv => (lhs; whnf)) ?_ | refine r_assign (by conv => (lhs; whnf)) ?_ | refine r_nil ?_ | refine q_then ?_ | refine wp_block_region ?_ | refine wp_block_seq ?_ | refine wp_block_cond ?_ | refine wp_block_block ?_ | refine wp_block_skip ?_ | refine wp_ret ?_ | refine q_then_ret ?_ | refine q_block_ret ?_ | refine wp_skip ?_ | refine wp_exit ?_ | refine q_then_exit ?_ | refine q_block ?_ | refine q_block_hit rfl ?_ | refine q_block_miss rfl ?_ | refine r_extract rfl rfl ?_ | refine r_len_sl rfl ?_ | refine r_len (by conv => (lhs; whnf)) (by assumption) ?_ | refine r_len_str rfl ?_ | refine r_guard_run rfl rfl ?_ | refine r_guard_skip rfl rfl rfl ?_ | refine r_guard_undef rfl rfl ?_ | refine r_pick_true rfl (by conv => (lhs; whnf)) ?_ | refine r_pick_false rfl (by conv => (lhs; whnf)) ?_ | refine r_lss rfl rfl ?_ | refine r_eql rfl rfl ?_ | refine r_neq rfl rfl ?_ | refine r_gtr rfl rfl ?_ | refine r_geq rfl rfl ?_ | refine r_leq rfl rfl ?_ | refine r_addI rfl rfl (by omega) (by omega) ?_ | refine r_subI rfl rfl (by omega) (by omega) ?_ | refine r_index_sl rfl rfl (by omega) (by omega) ?_ | refine r_index (by conv => (lhs; whnf)) rfl (by assumption) (by omega) (by omega) ?_ | refine r_conv rfl (wrap_i64 (by omega) (by omega)) ?_ | refine r_conv rfl (wrap_u64 (by omega) (by omega)) ?_ | refine r_conv rfl (wrap_u32 (by omega) (by omega)) ?_ | refine r_remP rfl rfl (by omega) (by omega) ?_ | refine r_quoU rfl rfl (by omega) (by omega) (by omega) ?_ | refine r_quoI rfl rfl (by omega) (by omega) (by omega) ?_ | refine r_max rfl rfl ?_ | refine r_min rfl rfl ?_ | refine r_notB rfl ?_ | refine r_not rfl ?_ | refine r_eqlB rfl rfl ?_ | refine r_neqB rfl rfl ?_ | refine r_func ?_ | refine r_field rfl ?_ | refine wp_if_true rfl ?_ | refine wp_if_false rfl ?_ | refine wp_if_yes rfl (by omega) ?_ | refine wp_if_no rfl (by omega) ?_ | refine wp_cond_true rfl ?_ | refine wp_cond_false rfl ?_ | refine wp_cond_yes rfl (by omega) ?_ | refine wp_cond_no rfl (by omega) ?_ | refine r_guard_yes rfl rfl (by omega) ?_ | refine r_guard_no rfl rfl (by omega) ?_ | refine r_nilCheck rfl ?_)
  refine r_box (cs := [.bool (tst (z < 0)), m]) (by conv => (lhs; whnf)) rfl ?_
  intro w_1 g1 k_1 hg1 hs_1
  have hsg1 : w.heap.size ≤ g1 := Nat.le_trans k.size hs_1
  clear hs_1
  replace hS := hS.to k_1
  replace hm := hm.to k_1
  replace k := k.trans k_1
  clear k_1
  repeat (first | refine wp_seq_region ?_ | refine wp_seq_seq ?_ | refine wp_seq_bregion ?_ | refine wp_seq_bseq ?_ | refine wp_seq_skip ?_ | refine wp_region ?_ | refine r_move (by conv => (lhs; whnf)) ?_ | refine r_assign (by conv => (lhs; whnf)) ?_ | refine r_nil ?_ | refine q_then ?_ | refine wp_block_region ?_ | refine wp_block_seq ?_ | refine wp_block_cond ?_ | refine wp_block_block ?_ | refine wp_block_skip ?_ | refine wp_ret ?_ | refine q_then_ret ?_ | refine q_block_ret ?_ | refine wp_skip ?_ | refine wp_exit ?_ | refine q_then_exit ?_ | refine q_block ?_ | refine q_block_hit rfl ?_ | refine q_block_miss rfl ?_ | refine r_extract rfl rfl ?_ | refine r_len_sl rfl ?_ | refine r_len (by conv => (lhs; whnf)) (by assumption) ?_ | refine r_len_str rfl ?_ | refine r_guard_run rfl rfl ?_ | refine r_guard_skip rfl rfl rfl ?_ | refine r_guard_undef rfl rfl ?_ | refine r_pick_true rfl (by conv => (lhs; whnf)) ?_ | refine r_pick_false rfl (by conv => (lhs; whnf)) ?_ | refine r_lss rfl rfl ?_ | refine r_eql rfl rfl ?_ | refine r_neq rfl rfl ?_ | refine r_gtr rfl rfl ?_ | refine r_geq rfl rfl ?_ | refine r_leq rfl rfl ?_ | refine r_addI rfl rfl (by omega) (by omega) ?_ | refine r_subI rfl rfl (by omega) (by omega) ?_ | refine r_index_sl rfl rfl (by omega) (by omega) ?_ | refine r_index (by conv => (lhs; whnf)) rfl (by assumption) (by omega) (by omega) ?_ | refine r_conv rfl (wrap_i64 (by omega) (by omega)) ?_ | refine r_conv rfl (wrap_u64 (by omega) (by omega)) ?_ | refine r_conv rfl (wrap_u32 (by omega) (by omega)) ?_ | refine r_remP rfl rfl (by omega) (by omega) ?_ | refine r_quoU rfl rfl (by omega) (by omega) (by omega) ?_ | refine r_quoI rfl rfl (by omega) (by omega) (by omega) ?_ | refine r_max rfl rfl ?_ | refine r_min rfl rfl ?_ | refine r_notB rfl ?_ | refine r_not rfl ?_ | refine r_eqlB rfl rfl ?_ | refine r_neqB rfl rfl ?_ | refine r_func ?_ | refine r_field rfl ?_ | refine wp_if_true rfl ?_ | refine wp_if_false rfl ?_ | refine wp_if_yes rfl (by omega) ?_ | refine wp_if_no rfl (by omega) ?_ | refine wp_cond_true rfl ?_ | refine wp_cond_false rfl ?_ | refine wp_cond_yes rfl (by omega) ?_ | refine wp_cond_no rfl (by omega) ?_ | refine r_guard_yes rfl rfl (by omega) ?_ | refine r_guard_no rfl rfl (by omega) ?_ | refine r_nilCheck rfl ?_)
  refine r_alloc (cs := [.bool false, .slice none 0 0, .slice none 0 0]) rfl ?_
  intro w_2 g k_2 hg hs_2
  have hsg : w.heap.size ≤ g := Nat.le_trans k.size hs_2
  have ne_g1_g : g1 ≠ g := fun e => by have := hg1.lt; omega
  clear hs_2
  replace hS := hS.to k_2
  replace hm := hm.to k_2
  replace hg1 := hg1.to k_2
  replace k := k.trans k_2
  clear k_2
  repeat (first | refine r_load_all rfl hg1 rfl ?_ | refine wp_seq_region ?_ | refine wp_seq_seq ?_ | refine wp_seq_bregion ?_ | refine wp_seq_bseq ?_ | refine wp_seq_skip ?_ | refine wp_region ?_ | refine r_move (by conv => (lhs; whnf)) ?_ | refine r_assign (by conv => (lhs; whnf)) ?_ | refine r_nil ?_ | refine q_then ?_ | refine wp_block_region ?_ | refine wp_block_seq ?_ | refine wp_block_cond ?_ | refine wp_block_block ?_ | refine wp_block_skip ?_ | refine wp_ret ?_ | refine q_then_ret ?_ | refine q_block_ret ?_ | refine wp_skip ?_ | refine wp_exit ?_ | refine q_then_exit ?_ | refine q_block ?_ | refine q_block_hit rfl ?_ | refine q_block_miss rfl ?_ | refine r_extract rfl rfl ?_ | refine r_len_sl rfl ?_ | refine r_len (by conv => (lhs; whnf)) (by assumption) ?_ | refine r_len_str rfl ?_ | refine r_guard_run rfl rfl ?_ | refine r_guard_skip rfl rfl rfl ?_ | refine r_guard_undef rfl rfl ?_ | refine r_pick_true rfl (by conv => (lhs; whnf)) ?_ | refine r_pick_false rfl (by conv => (lhs; whnf)) ?_ | refine r_lss rfl rfl ?_ | refine r_eql rfl rfl ?_ | refine r_neq rfl rfl ?_ | refine r_gtr rfl rfl ?_ | refine r_geq rfl rfl ?_ | refine r_leq rfl rfl ?_ | refine r_addI rfl rfl (by omega) (by omega) ?_ | refine r_subI rfl rfl (by omega) (by omega) ?_ | refine r_index_sl rfl rfl (by omega) (by omega) ?_ | refine r_index (by conv => (lhs; whnf)) rfl (by assumption) (by omega) (by omega) ?_ | refine r_conv rfl (wrap_i64 (by omega) (by omega)) ?_ | refine r_conv rfl (wrap_u64 (by omega) (by omega)) ?_ | refine r_conv rfl (wrap_u32 (by omega) (by omega)) ?_ | refine r_remP rfl rfl (by omega) (by omega) ?_ | refine r_quoU rfl rfl (by omega) (by omega) (by omega) ?_ | refine r_quoI rfl rfl (by omega) (by omega) (by omega) ?_ | refine r_max rfl rfl ?_ | refine r_min rfl rfl ?_ | refine r_notB rfl ?_ | refine r_not rfl ?_ | refine r_eqlB rfl rfl ?_ | refine r_neqB rfl rfl ?_ | refine r_func ?_ | refine r_field rfl ?_ | refine wp_if_true rfl ?_ | refine wp_if_false rfl ?_ | refine wp_if_yes rfl (by omega) ?_ | refine wp_if_no rfl (by omega) ?_ | refine wp_cond_true rfl ?_ | refine wp_cond_false rfl ?_ | refine wp_cond_yes rfl (by omega) ?_ | refine wp_cond_no rfl (by omega) ?_ | refine r_guard_yes rfl rfl (by omega) ?_ | refine r_guard_no rfl rfl (by omega) ?_ | refine r_nilCheck rfl ?_)
  refine r_build2of3 (by conv => (lhs; whnf)) ?_
  refine r_store3 rfl (by conv => (lhs; whnf)) hg rfl rfl hm.one rfl ?_
  intro w_3 k_3 h_3
  replace hS := hS.to k_3
  replace hm := hm.wrT k_3 hg (by decide)
  replace hg1 := hg1.wr k_3 (by omega)
  replace k : Ext w w_3 := k.past k_3 hsg
  replace hg := h_3
  clear h_3 k_3
  repeat (first | refine wp_seq_region ?_ | refine wp_seq_seq ?_ | refine wp_seq_bregion ?_ | refine wp_seq_bseq ?_ | refine wp_seq_skip ?_ | refine wp_region ?_ | refine r_move (by conv => (lhs; whnf)) ?_ | refine r_assign (by conv => (lhs; whnf)) ?_ | refine r_nil ?_ | refine q_then ?_ | refine wp_block_region ?_ | refine wp_block_seq ?_ | refine wp_block_cond ?_ | refine wp_block_block ?_ | refine wp_block_skip ?_ | refine wp_ret ?_ | refine q_then_ret ?_ | refine q_block_ret ?_ | refine wp_skip ?_ | refine wp_exit ?_ | refine q_then_exit ?_ | refine q_block ?_ | refine q_block_hit rfl ?_ | refine q_block_miss rfl ?_ | refine r_extract rfl rfl ?_ | refine r_len_sl rfl ?_ | refine r_len (by conv => (lhs; whnf)) (by assumption) ?_ | refine r_len_str rfl ?_ | refine r_guard_run rfl rfl ?_ | refine r_guard_skip rfl rfl rfl ?_ | refine r_guard_undef rfl rfl ?_ | refine r_pick_true rfl (by conv => (lhs; whnf)) ?_ | refine r_pick_false rfl (by conv => (lhs; whnf)) ?_ | refine r_lss rfl rfl ?_ | refine r_eql rfl rfl ?_ | refine r_neq rfl rfl ?_ | refine r_gtr rfl rfl ?_ | refine r_geq rfl rfl ?_ | refine r_leq rfl rfl ?_ | refine r_addI rfl rfl (by omega) (by omega) ?_ | refine r_subI rfl rfl (by omega) (by omega) ?_ | refine r_index_sl rfl rfl (by omega) (by omega) ?_ | refine r_index (by conv => (lhs; whnf)) rfl (by assumption) (by omega) (by omega) ?_ | refine r_conv rfl (wrap_i64 (by omega) (by omega)) ?_ | refine r_conv rfl (wrap_u64 (by omega) (by omega)) ?_ | refine r_conv rfl (wrap_u32 (by omega) (by omega)) ?_ | refine r_remP rfl rfl (by omega) (by omega) ?_ | refine r_quoU rfl rfl (by omega) (by omega) (by omega) ?_ | refine r_quoI rfl rfl (by omega) (by omega) (by omega) ?_ | refine r_max rfl rfl ?_ | refine r_min rfl rfl ?_ | refine r_notB rfl ?_ | refine r_not rfl ?_ | refine r_eqlB rfl rfl ?_ | refine r_neqB rfl rfl ?_ | refine r_func ?_ | refine r_field rfl ?_ | refine wp_if_true rfl ?_ | refine wp_if_false rfl ?_ | refine wp_if_yes rfl (by omega) ?_ | refine wp_if_no rfl (by omega) ?_ | refine wp_cond_true rfl ?_ | refine wp_cond_false rfl ?_ | refine wp_cond_yes rfl (by omega) ?_ | refine wp_cond_no rfl (by omega) ?_ | refine r_guard_yes rfl rfl (by omega) ?_ | refine r_guard_no rfl rfl (by omega) ?_ | refine r_nilCheck rfl ?_)
  exact end1 rfl (resV_agg (by conv => (lhs; whnf)) hg rfl) ⟨k, m, _, rfl, hm, by rw [bot_int]; exact .nil⟩
end Go.Proofs.YtpmnjjmngogkkaaGreatDoor
end

section
set_option linter.unusedVariables false
set_option linter.unusedSimpArgs false
namespace Go.Proofs.YtpmnjjmngogkkaaGreatDoor
open Go Go.RowKit
abbrev nilI : Value := .agg #[.bool false, .slice none 0 0]
abbrev nilR : Value := .agg #[.bool false, .slice none 0 0, .slice none 0 0]
abbrev nilQ : Value := .agg #[.bool false, .slice none 0 0, .bool false, .slice none 0 0]
theorem zparse_y {S : Nat → Prop} {w : World} {s : List UInt8} {z : Int} (hS : Up S w) (hl : s.length ≤ 14000) (h : s = Lib.itoa z) : Gives Tryz.prog 56 [strV s] w fun v w' => Ext w w' ∧ (bG (fun x => zG x z) true v).p S w' :=
  (zparse_c hS (by omega)).mono fun v w' ⟨k, hp⟩ => ⟨k, by
    rcases hp with ⟨z', vz, h1, rfl, h2⟩ | ⟨h1, _⟩
    · obtain rfl : z = z' := itoa_inj (h.symm.trans h1)
      exact ⟨rfl, h2⟩
    · exact absurd h (h1 z)⟩
theorem zparse_n {S : Nat → Prop} {w : World} {s : List UInt8} (hS : Up S w) (hl : s.length ≤ 14000) (h : ∀ z, s ≠ Lib.itoa z) : Gives Tryz.prog 56 [strV s] w fun v w' => v = .tuple #[nilI, .bool false] ∧ Ext w w' :=
  (zparse_c hS (by omega)).mono fun v w' ⟨k, hp⟩ => ⟨by
    rcases hp with ⟨z', vz, h1, _, _⟩ | ⟨_, h1⟩
    · exact absurd h1 (h z')
    · exact h1, k⟩
theorem iparse_y {S : Nat → Prop} {w : World} {s : List UInt8} {z : Int} (hS : Up S w) (hl : s.length ≤ 14000) (h : s = Lib.itoa z) : Gives Tryz.prog 54 [strV s] w fun v w' => Ext w w' ∧ (itryG v z 0).p S w' :=
  (iparse_c hS (by omega)).mono fun v w' ⟨k, hp⟩ => ⟨k, by
    rcases hp with ⟨h1, _⟩ | ⟨_, h1, _⟩ | ⟨_, z', h1, r, e, rfl, ht⟩
    · omega
    · exact absurd h (h1 z)
    · obtain rfl : z = z' := itoa_inj (h.symm.trans h1)
      rcases ht with ⟨_, rfl, h3⟩ | ⟨h2, _⟩
      · exact ⟨rfl, h3⟩
      · exact absurd (fits_small (k := 14000) (j := 1556) (h ▸ hl) (by decide) (by decide)) h2⟩
theorem iparse_n {S : Nat → Prop} {w : World} {s : List UInt8} (hS : Up S w) (hl : s.length ≤ 14000) (h : ∀ z, s ≠ Lib.itoa z) : Gives Tryz.prog 54 [strV s] w fun v w' => v = .tuple #[nilI, .int .i64 10] ∧ Ext w w' :=
  (iparse_c hS (by omega)).mono fun v w' ⟨k, hp⟩ => ⟨by
    rcases hp with ⟨h1, _⟩ | ⟨_, _, h1⟩ | ⟨_, z', h1, _⟩
    · omega
    · exact h1
    · exact absurd h1 (h z'), k⟩
theorem rparse_y {S : Nat → Prop} {w : World} {s : List UInt8} {q : Rat} (hS : Up S w) (hl : s.length ≤ 14000) (h : s = rstr q) : Gives Tryz.prog 53 [strV s] w fun v w' => Ext w w' ∧ (tryG v q 0).p S w' :=
  (rparse_c hS (by omega)).mono fun v w' ⟨k, hp⟩ => ⟨k, by
    rcases hp with ⟨h1, _⟩ | ⟨_, h1, _⟩ | ⟨_, z', h1, r, e, rfl, ht⟩
    · omega
    · exact absurd h (h1 q)
    · obtain rfl : q = z' := rstr_inj (h.symm.trans h1)
      rcases ht with ⟨_, rfl, h3⟩ | ⟨h2, _⟩
      · exact ⟨rfl, h3⟩
      · exact absurd (fits_len (q := q) (h ▸ Nat.le_trans hl (by decide))) h2⟩
theorem rparse_n {S : Nat → Prop} {w : World} {s : List UInt8} (hS : Up S w) (hl : s.length ≤ 14000) (h : ∀ q, s ≠ rstr q) : Gives Tryz.prog 53 [strV s] w fun v w' => v = .tuple #[nilR, .int .i64 10] ∧ Ext w w' :=
  (rparse_c hS (by omega)).mono fun v w' ⟨k, hp⟩ => ⟨by
    rcases hp with ⟨h1, _⟩ | ⟨_, _, h1⟩ | ⟨_, z', h1, _⟩
    · omega
    · exact h1
    · exact absurd h1 (h z'), k⟩
/-- A fraction of the reference, in its parts. -/
def qm (v : Value) : Value := match tupN v 0 with | .agg cs => cs.getD 1 undef | _ => undef
def qb (v : Value) : Value := match tupN v 0 with | .agg cs => cs.getD 3 undef | _ => undef
noncomputable abbrev qpV (v : Value) (q : Rat) : Value := .agg #[.bool (tst (q.num < 0)), qm v, .bool (tst ((q.den : Int) < 0)), qb v]
abbrev qpG (v : Value) (q : Rat) : Gh := ⟨fun S w => v = .tuple #[qpV v q, .bool true] ∧ NatV S 3 .i64 w (qm v) q.num.natAbs ∧ NatV S 3 .i64 w (qb v) (q.den : Int).natAbs, fun h k => ⟨h.1, h.2.1.keep k, h.2.2.keep k⟩, fun h k => ⟨h.1, h.2.1.mono k, h.2.2.mono k⟩⟩
noncomputable abbrev qpS (v : Value) (q : Rat) : SV := .tup [(true, [.tp (q.num < 0), .val (qm v), .tp ((q.den : Int) < 0), .val (qb v)]), (false, [.bb true])]
theorem qpG_ok {v : Value} {q : Rat} {S : Nat → Prop} {w : World} (h : (qpG v q).p S w) : (qpS v q).Ok 0 ∧ (qpS v q).den (fun _ => 0) = v := by
  refine ⟨fun p hp c hc => ?_, h.1.symm⟩
  simp only [List.mem_cons, List.not_mem_nil, or_false] at hp
  rcases hp with rfl | rfl
  · simp only [List.mem_cons, List.not_mem_nil, or_false] at hc
    rcases hc with rfl | rfl | rfl | rfl
    · trivial
    · exact h.2.1.one
    · trivial
    · exact h.2.2.one
  · simp only [List.mem_cons, List.not_mem_nil, or_false] at hc
    subst hc
    trivial
section
variable {v : Value} {q : Rat} {S : Nat → Prop} {w : World}
theorem qpq (h : (qpG v q).p S w) : QV S w (qpV v q) q := ⟨_, _, rfl, h.2.1, h.2.2⟩
theorem qpn (h : (qpG v q).p S w) : ZV S w (.agg #[.bool (tst (q.num < 0)), qm v]) q.num := ⟨_, rfl, h.2.1⟩
theorem qpd (h : (qpG v q).p S w) : ZV S w (.agg #[.bool (tst ((q.den : Int) < 0)), qb v]) (q.den : Int) := ⟨_, rfl, h.2.2⟩
end
theorem zread_y {S : Nat → Prop} {w : World} {s : List UInt8} {q : Rat} (hS : Up S w) (hl : s.length ≤ 14000) (h : s = rstr q) : Gives Tryz.prog 62 [strV s] w fun v w' => Ext w w' ∧ (qpG v q).p S w' :=
  (zread_c hS (by omega)).mono fun v w' ⟨k, hp⟩ => ⟨k, by
    rcases hp with ⟨q', vq, h1, rfl, m, b, rfl, h2, h3⟩ | ⟨h1, _⟩
    · obtain rfl : q = q' := rstr_inj (h.symm.trans h1)
      exact ⟨rfl, h2, h3⟩
    · exact absurd h (h1 q)⟩
theorem zread_n {S : Nat → Prop} {w : World} {s : List UInt8} (hS : Up S w) (hl : s.length ≤ 14000) (h : ∀ q, s ≠ rstr q) : Gives Tryz.prog 62 [strV s] w fun v w' => v = .tuple #[nilQ, .bool false] ∧ Ext w w' :=
  (zread_c hS (by omega)).mono fun v w' ⟨k, hp⟩ => ⟨by
    rcases hp with ⟨q', vq, h1, _⟩ | ⟨_, h1⟩
    · exact absurd h1 (h q')
    · exact h1, k⟩
/-- The reference's negated fraction, of its parts. -/
theorem neg_q {S : Nat → Prop} {w : World} {v x : Value} {q : Rat} (h : (qpG v q).p S w) (hx : ZV S w x (-q.num)) : QV S w (.agg (x.cells.toList ++ [.bool (tst ((q.den : Int) < 0)), qb v]).toArray) (-q) := by
  obtain ⟨m, rfl, hm⟩ := hx
  exact ⟨m, qb v, rfl, hm, h.2.2⟩
theorem k_tst {P : Program} {f : FuncId} {args : List Value} {w : World} {p : Prop} (hp : p) (h : Gives P f args w fun v w' => v = .bool (tst p) ∧ Ext w w') : Gives P f args w fun v w' => v = .bool true ∧ Ext w w' := h.mono fun v w' ⟨h1, k⟩ => ⟨by rw [h1, tst_true hp], k⟩
theorem rl_up {q : Rat} {m n : Nat} (h : rl q m) (k : m ≤ n) : rl q n := ⟨Nat.le_trans h.1 k, Nat.le_trans h.2 k⟩
theorem rl_int0 {z : Int} {n : Nat} (h : zl z ≤ n + 1) : rl (z : Rat) (n + 1) := ⟨h, Nat.le_trans (dl_le (k := 1) (show 1 < 1000000000 ^ 1 by decide)) (by omega)⟩
theorem zl_floor {q : Rat} {k : Nat} (h : rl q k) (hk : k ≤ 400000000000) : zl (q.num / (q.den : Int)) ≤ 400000000000 := by
  refine Nat.le_trans (dl_le (k := k) ?_) hk
  exact Nat.lt_of_le_of_lt (Int.natAbs_ediv_le_natAbs _ _) (Nat.lt_of_lt_of_le (lt_pow_dl _) (pow_mono_b h.1))
set_option maxRecDepth 100000 in
set_option maxHeartbeats 4000000 in
theorem fracReads_c {w : World} {s : List UInt8} (ht : Tab w) (he : RangeV w) :
    Gives Tryz.prog 8 [strV s] w fun v' w' => v' = .bool true ∧ Ext w w' := by
  have hS : Up All w := Up.all
  refine t_gives (E := env) (S0 := All) (G := Gh.nil) (l := [.one (.str s)]) Tryz.func8 rfl rfl rfl ⟨trivial, trivial⟩ rfl trivial ?_
  refine s_mid (ι := List UInt8) [(0, 0), (14, 18)] (fun l => [(0, .one (.str l))]) (fun _ => []) (fun l => Gh.nil) (fun l => l.length ≤ 14000) ⟨env_ok, hS⟩ (by kernel_rfl) (fun hso => ?_) (fun l hl => ?_)
  · refine s_if (p := (14000 : Int) < (s.length : Int)) ⟨env_ok, hS⟩ (by kernel_rfl) (by kernel_rfl) (by kernel_rfl) (fun h1 => ?_) (fun h1 => ?_)
    · refine s_go ⟨env_ok, hS⟩ (by kernel_rfl) (t_cutS s 14000 (by kernel_rfl) ⟨env_ok, hS⟩ (by omega)  ?_)
      exact s_join (s.take 14000) ⟨env_ok, hS⟩ hso (by kernel_rfl) (by kernel_rfl) (fun β => (by kernel_rfl)) (fun β => (by kernel_rfl)) (by kernel_rfl) (by rw [List.length_take]; omega) (fun S w hw hG => ⟨ov_free rfl, fun p hp => by cases hp⟩) (fun S w hw hG => hG)
    · exact s_join (s) ⟨env_ok, hS⟩ hso (by kernel_rfl) (by kernel_rfl) (fun β => (by kernel_rfl)) (fun β => (by kernel_rfl)) (by kernel_rfl) (by omega) (fun S w hw hG => ⟨ov_free rfl, fun p hp => by cases hp⟩) (fun S w hw hG => hG)
  refine s_midK (ι := Unit) 3 2 [(2, 10), (19, 87)] (fun _ => []) (fun _ => []) (fun _ => Gh.nil) (fun _ => True) ⟨env_ok, hS⟩ (by kernel_rfl) (by kernel_rfl) (fun hso => ?_) (fun _ _ => ?_)
  · by_cases hp : ∃ z, l = Lib.itoa z
    · obtain ⟨z, hz⟩ := hp
      have hzl : zl z ≤ 1556 := zl_itoaP hz (by omega)
      have hln : (Lib.itoa z).length ≤ 14000 := hz ▸ hl
      refine s_1 (fun x0 => pr (.ag 2 (tupN x0 0)) (.bb true)) (fun x0 => bG (fun x1 => zG x1 (z)) true x0) ⟨env_ok, hS⟩ (by kernel_rfl) (by kernel_rfl) (fun _ _ _ h => bzG_ok h) (fun β S w hS hs hw hG => ⟨_, (by kernel_rfl), zparse_y hS hl hz⟩) ?_
      intro v
      refine s_1 (fun x0 => pr (.ag 2 (tupAt x0)) (.lit .i64 0)) (fun x0 => itryG x0 (z) 0) ⟨env_ok, hS⟩ (by kernel_rfl) (by kernel_rfl) (fun _ _ _ h => itryG_ok h) (fun β S w hS hs hw hG => ⟨_, (by kernel_rfl), iparse_y hS hl hz⟩) ?_
      intro a
      refine s_K (pr (.int .i64 (if I64 z then z else 0)) (.tp (I64 z))) ⟨env_ok, hS⟩ (by kernel_rfl) (by kernel_rfl) (svB_ok rfl) rfl (fun β S w hS hs hw hG => have hv := hG.2.1; ⟨_, (by kernel_rfl), zint64_c hS hv.2 (by omega)⟩) ?_
      refine s_K (pr (.int .i64 (if I64 z then z else 0)) (.tp (I64 z))) ⟨env_ok, hS⟩ (by kernel_rfl) (by kernel_rfl) (svB_ok rfl) rfl (fun β S w hS hs hw hG => have ha := hG.1; ⟨_, (by kernel_rfl), int64_c (ht.to hw) (he.to hw) ha.2 (by omega) (by omega)⟩) ?_
      refine s_drawn 40 ⟨env_ok, hS⟩ (by kernel_rfl) (by kernel_rfl) (by kernel_rfl) ?_
      refine hd_run 4 (fun η => (by kernel_rfl)) ?_
      refine h_K (.one (.str l)) (fun η => (by kernel_rfl)) (svB_ok rfl) rfl (fun β η S w hS hs hw hG hd => have ha := hG.1; ⟨_, (by kernel_rfl), gK (istr_c (ht.to hw) ha.2 (by omega)) (congrArg strV hz.symm)⟩) ?_
      refine hd_run 1 (fun η => (by kernel_rfl)) ?_
      refine hd_tst (p := l ≠ l) false (fun η => (by kernel_rfl)) (fun η => (by kernel_rfl)) (fun η => (by kernel_rfl)) ⟨fun h => absurd h (fun h => h rfl), fun h => by cases h⟩ ?_
      refine hd_run 3 (fun η => (by kernel_rfl)) ?_
      refine h_K (.one (.int .i64 z.sign)) (fun η => (by kernel_rfl)) (svB_ok rfl) rfl (fun β η S w hS hs hw hG hd => have ha := hG.1; ⟨_, (by kernel_rfl), sign_c ha.2⟩) ?_
      refine hd_run 1 (fun η => (by kernel_rfl)) ?_
      refine h_K (.one (.int .i64 z.sign)) (fun η => (by kernel_rfl)) (svB_ok rfl) rfl (fun β η S w hS hs hw hG hd => have hv := hG.2.1; ⟨_, (by kernel_rfl), zsign_c hv.2⟩) ?_
      refine hd_tst (p := z.sign ≠ z.sign) false (fun η => (by kernel_rfl)) (fun η => (by kernel_rfl)) (fun η => (by kernel_rfl)) ⟨fun h => absurd h (fun h => h rfl), fun h => by cases h⟩ ?_
      refine hd_run 4 (fun η => (by kernel_rfl)) ?_
      refine hd_tst (p := (if I64 z then z else 0) ≠ (if I64 z then z else 0)) false (fun η => (by kernel_rfl)) (fun η => (by kernel_rfl)) (fun η => (by kernel_rfl)) ⟨fun h => absurd h (fun h => h rfl), fun h => by cases h⟩ ?_
      refine hd_run 4 (fun η => (by kernel_rfl)) ?_
      refine hd_tst (p := ¬ (I64 z ↔ I64 z)) false (fun η => (by kernel_rfl)) (fun η => (by kernel_rfl)) (fun η => (by kernel_rfl)) ⟨fun h => absurd h (fun h => h Iff.rfl), fun h => by cases h⟩ ?_
      refine hd_run 3 (fun η => (by kernel_rfl)) ?_
      refine h_1 (fun x0 => .one (.ag 2 x0)) (fun x0 => intG x0 ((-z))) (fun η => (by kernel_rfl)) (fun _ _ _ h => ⟨h.ok, rfl⟩) (fun β η S w hS hs hw hG hd => have ha := hG.1; ⟨_, (by kernel_rfl), neg_c ha.2⟩) ?_
      refine hd_run 1 (fun η => (by kernel_rfl)) ?_
      refine h_1 (fun x0 => .one (.ag 2 x0)) (fun x0 => zG x0 ((-z))) (fun η => (by kernel_rfl)) (fun _ _ _ h => ⟨h.ok, rfl⟩) (fun β η S w hS hs hw hG hd => have hv := hG.2.1; ⟨_, (by kernel_rfl), zneg_c hv.2⟩) ?_
      refine h_K (.one (.bb true)) (fun η => (by kernel_rfl)) (svB_ok rfl) rfl (fun β η S w hS hs hw hG hd => ⟨_, (by kernel_rfl), k_tst rfl (whole_l hS (ht.to hw) (dep hd 27 (by kernel_rfl) (by kernel_rfl) : (intG (η 27) ((-z))).p S w) (dep hd 29 (by kernel_rfl) (by kernel_rfl) : (zG (η 29) ((-z))).p S w) (by rw [zl_neg]; omega) (by rw [zl_neg]; omega))⟩) ?_
      refine hd_run 4 (fun η => (by kernel_rfl)) ?_
      refine h_1 (fun x0 => .one (.ag 3 x0)) (fun x0 => ratG x0 ((z : Rat))) (fun η => (by kernel_rfl)) (fun _ _ _ h => ⟨h.ok, rfl⟩) (fun β η S w hS hs hw hG hd => have ha := hG.1; ⟨_, (by kernel_rfl), from_c hS ha.2⟩) ?_
      refine h_K (.one (.str l)) (fun η => (by kernel_rfl)) (svB_ok rfl) rfl (fun β η S w hS hs hw hG hd => ⟨_, (by kernel_rfl), gK (rstr_c (ht.to hw) (dep hd 35 (by kernel_rfl) (by kernel_rfl) : (ratG (η 35) ((z : Rat))).p S w) (rl_int0 (by omega))) (congrArg strV ((rstr_int (q := (z : Rat)) rfl).trans hz.symm))⟩) ?_
      refine hd_run 1 (fun η => (by kernel_rfl)) ?_
      refine hd_tst (p := l ≠ l) false (fun η => (by kernel_rfl)) (fun η => (by kernel_rfl)) (fun η => (by kernel_rfl)) ⟨fun h => absurd h (fun h => h rfl), fun h => by cases h⟩ ?_
      refine hd_run 1 (fun η => (by kernel_rfl)) ?_
      refine hd_done (fun η => ((Gh.nil).and ((ratG (η 35) ((z : Rat))).and ((Gh.nil).and ((zG (η 29) ((-z))).and ((intG (η 27) ((-z))).and ((Gh.nil).and ((Gh.nil).and ((Gh.nil).and ((itryG a (z) 0).and ((bG (fun x1 => zG x1 (z)) true v).and (Gh.nil)))))))))))) (by kernel_rfl) (fun η => (by kernel_rfl)) ?_
      intro η_1
      exact s_join () ⟨env_ok, hS⟩ hso (by kernel_rfl) (by kernel_rfl) (fun β => (by kernel_rfl)) (fun β => (by kernel_rfl)) (by kernel_rfl) trivial (fun S w hw hG => ⟨ov_free rfl, fun p hp => by cases hp⟩) (fun S w hw hG => hG.2.2.2.2.2.2.2.2.2.2)
    · have hn : ∀ z, l ≠ Lib.itoa z := fun z h => hp ⟨z, h⟩
      refine s_K (.tup [(true, [.bb false, .sl (.slice none 0 0) 0]), (false, [.bb false])]) ⟨env_ok, hS⟩ (by kernel_rfl) (by kernel_rfl) (svB_ok rfl) rfl (fun β S w hS hs hw hG => ⟨_, (by kernel_rfl), zparse_n hS hl hn⟩) ?_
      refine s_K (.tup [(true, [.bb false, .sl (.slice none 0 0) 0]), (false, [.lit .i64 10])]) ⟨env_ok, hS⟩ (by kernel_rfl) (by kernel_rfl) (svB_ok rfl) rfl (fun β S w hS hs hw hG => ⟨_, (by kernel_rfl), iparse_n hS hl hn⟩) ?_
      refine s_K (.one (.lit .i64 0)) ⟨env_ok, hS⟩ (by kernel_rfl) (by kernel_rfl) (svB_ok rfl) rfl (fun β S w hS hs hw hG => ⟨_, (by kernel_rfl), gK (sign_c (S := All) (z := 0) zero_int) rfl⟩) ?_
      exact s_join () ⟨env_ok, hS⟩ hso (by kernel_rfl) (by kernel_rfl) (fun β => (by kernel_rfl)) (fun β => (by kernel_rfl)) (by kernel_rfl) trivial (fun S w hw hG => ⟨ov_free rfl, fun p hp => by cases hp⟩) (fun S w hw hG => hG)
  by_cases hp : ∃ q, l = rstr q
  · obtain ⟨q, hq⟩ := hp
    have hrl : rl q 1556 := rl_len (by rw [← hq]; omega)
    have hrn : rl (-q) 1556 := by unfold rl; rw [Rat.neg_num, Rat.neg_den, Int.natAbs_neg]; exact hrl
    refine s_1 (fun x0 => qpS x0 (q)) (fun x0 => qpG x0 (q)) ⟨env_ok, hS⟩ (by kernel_rfl) (by kernel_rfl) (fun _ _ _ h => qpG_ok h) (fun β S w hS hs hw hG => ⟨_, (by kernel_rfl), zread_y hS hl hq⟩) ?_
    intro v
    refine s_1 (fun x0 => pr (.ag 3 (tupAt x0)) (.lit .i64 0)) (fun x0 => tryG x0 (q) 0) ⟨env_ok, hS⟩ (by kernel_rfl) (by kernel_rfl) (fun _ _ _ h => tryG_ok h) (fun β S w hS hs hw hG => ⟨_, (by kernel_rfl), rparse_y hS hl hq⟩) ?_
    intro a
    refine s_drawn 51 ⟨env_ok, hS⟩ (by kernel_rfl) (by kernel_rfl) (by kernel_rfl) ?_
    refine hd_run 4 (fun η => (by kernel_rfl)) ?_
    refine h_K (.one (.str l)) (fun η => (by kernel_rfl)) (svB_ok rfl) rfl (fun β η S w hS hs hw hG hd => have ha := hG.1; ⟨_, (by kernel_rfl), gK (rstr_c (ht.to hw) ha.2 (rl_up hrl (by decide))) (congrArg strV hq.symm)⟩) ?_
    refine hd_run 1 (fun η => (by kernel_rfl)) ?_
    refine hd_tst (p := l = l) true (fun η => (by kernel_rfl)) (fun η => (by kernel_rfl)) (fun η => (by kernel_rfl)) ⟨fun _ => rfl, fun _ => rfl⟩ ?_
    refine hd_run 3 (fun η => (by kernel_rfl)) ?_
    refine h_K (.one (.int .i64 q.num.sign)) (fun η => (by kernel_rfl)) (svB_ok rfl) rfl (fun β η S w hS hs hw hG hd => have ha := hG.1; ⟨_, (by kernel_rfl), rsign_c ha.2⟩) ?_
    refine hd_run 1 (fun η => (by kernel_rfl)) ?_
    refine h_K (.one (.int .i64 q.num.sign)) (fun η => (by kernel_rfl)) (svB_ok rfl) rfl (fun β η S w hS hs hw hG hd => have hv := hG.2.1; ⟨_, (by kernel_rfl), zsgn_c (qpq hv)⟩) ?_
    refine hd_tst (p := q.num.sign = q.num.sign) true (fun η => (by kernel_rfl)) (fun η => (by kernel_rfl)) (fun η => (by kernel_rfl)) ⟨fun _ => rfl, fun _ => rfl⟩ ?_
    refine hd_run 3 (fun η => (by kernel_rfl)) ?_
    refine h_1 (fun x0 => .one (.ag 2 x0)) (fun x0 => intG x0 (q.num)) (fun η => (by kernel_rfl)) (fun _ _ _ h => ⟨h.ok, rfl⟩) (fun β η S w hS hs hw hG hd => have ha := hG.1; ⟨_, (by kernel_rfl), rnum_c ha.2⟩) ?_
    refine hd_run 2 (fun η => (by kernel_rfl)) ?_
    refine h_K (.one (.bb true)) (fun η => (by kernel_rfl)) (svB_ok rfl) rfl (fun β η S w hS hs hw hG hd => have hv := hG.2.1; ⟨_, (by kernel_rfl), k_tst rfl (whole_l hS (ht.to hw) (dep hd 17 (by kernel_rfl) (by kernel_rfl) : (intG (η 17) (q.num)).p S w) (qpn hv) (Nat.le_trans hrl.1 (by decide)) (Nat.le_trans hrl.1 (by decide)))⟩) ?_
    refine hd_run 3 (fun η => (by kernel_rfl)) ?_
    refine h_1 (fun x0 => .one (.ag 2 x0)) (fun x0 => intG x0 ((q.den : Int))) (fun η => (by kernel_rfl)) (fun _ _ _ h => ⟨h.ok, rfl⟩) (fun β η S w hS hs hw hG hd => have ha := hG.1; ⟨_, (by kernel_rfl), rden_c hS ha.2⟩) ?_
    refine hd_run 2 (fun η => (by kernel_rfl)) ?_
    refine h_K (.one (.bb true)) (fun η => (by kernel_rfl)) (svB_ok rfl) rfl (fun β η S w hS hs hw hG hd => have hv := hG.2.1; ⟨_, (by kernel_rfl), k_tst rfl (whole_l hS (ht.to hw) (dep hd 24 (by kernel_rfl) (by kernel_rfl) : (intG (η 24) ((q.den : Int))).p S w) (qpd hv) (Nat.le_trans hrl.2 (by decide)) (Nat.le_trans hrl.2 (by decide)))⟩) ?_
    refine hd_run 3 (fun η => (by kernel_rfl)) ?_
    refine h_1 (fun x0 => .one (.ag 3 x0)) (fun x0 => ratG x0 ((-q))) (fun η => (by kernel_rfl)) (fun _ _ _ h => ⟨h.ok, rfl⟩) (fun β η S w hS hs hw hG hd => have ha := hG.1; ⟨_, (by kernel_rfl), rneg_c ha.2⟩) ?_
    refine hd_run 2 (fun η => (by kernel_rfl)) ?_
    refine h_1 (fun x0 => .one (.ag 2 x0)) (fun x0 => zG x0 ((-q.num))) (fun η => (by kernel_rfl)) (fun _ _ _ h => ⟨h.ok, rfl⟩) (fun β η S w hS hs hw hG hd => have hv := hG.2.1; ⟨_, (by kernel_rfl), zneg_c (qpn hv)⟩) ?_
    refine hd_run 3 (fun η => (by kernel_rfl)) ?_
    refine h_K (.one (.bb true)) (fun η => (by kernel_rfl)) (svB_ok rfl) rfl (fun β η S w hS hs hw hG hd => have hv := hG.2.1; ⟨_, (by kernel_rfl), k_tst rfl (is_l hS (ht.to hw) (dep hd 31 (by kernel_rfl) (by kernel_rfl) : (ratG (η 31) ((-q))).p S w) (neg_q hv (dep hd 34 (by kernel_rfl) (by kernel_rfl) : (zG (η 34) ((-q.num))).p S w)) (rl_up hrn (by decide)) (rl_up hrn (by decide)))⟩) ?_
    refine hd_run 3 (fun η => (by kernel_rfl)) ?_
    refine h_1 (fun x0 => .one (.ag 2 x0)) (fun x0 => intG x0 ((q.num / (q.den : Int)))) (fun η => (by kernel_rfl)) (fun _ _ _ h => ⟨h.ok, rfl⟩) (fun β η S w hS hs hw hG hd => have ha := hG.1; ⟨_, (by kernel_rfl), rfloor_c hS ha.2 (rl_up hrl (by decide))⟩) ?_
    refine hd_run 1 (fun η => (by kernel_rfl)) ?_
    refine h_1 (fun x0 => .one (.ag 2 x0)) (fun x0 => zG x0 ((q.num / (q.den : Int)))) (fun η => (by kernel_rfl)) (fun _ _ _ h => ⟨h.ok, rfl⟩) (fun β η S w hS hs hw hG hd => have hv := hG.2.1; ⟨_, (by kernel_rfl), zfloor_c hS (qpq hv) (rl_up hrl (by decide))⟩) ?_
    refine h_K (.one (.bb true)) (fun η => (by kernel_rfl)) (svB_ok rfl) rfl (fun β η S w hS hs hw hG hd => ⟨_, (by kernel_rfl), k_tst rfl (whole_l hS (ht.to hw) (dep hd 42 (by kernel_rfl) (by kernel_rfl) : (intG (η 42) ((q.num / (q.den : Int)))).p S w) (dep hd 44 (by kernel_rfl) (by kernel_rfl) : (zG (η 44) ((q.num / (q.den : Int)))).p S w) (zl_floor hrl (by decide)) (zl_floor hrl (by decide)))⟩) ?_
    refine hd_run 2 (fun η => (by kernel_rfl)) ?_
    refine h_K (.one (.bb true)) (fun η => (by kernel_rfl)) (svB_ok rfl) rfl (fun β η S w hS hs hw hG hd => ⟨_, (by kernel_rfl), awake_c (ht.to hw)⟩) ?_
    refine hd_run 2 (fun η => (by kernel_rfl)) ?_
    refine hd_done (fun η => ((Gh.nil).and ((Gh.nil).and ((zG (η 44) ((q.num / (q.den : Int)))).and ((intG (η 42) ((q.num / (q.den : Int)))).and ((Gh.nil).and ((zG (η 34) ((-q.num))).and ((ratG (η 31) ((-q))).and ((Gh.nil).and ((intG (η 24) ((q.den : Int))).and ((Gh.nil).and ((intG (η 17) (q.num)).and ((Gh.nil).and ((Gh.nil).and ((Gh.nil).and ((tryG a (q) 0).and ((qpG v (q)).and (Gh.nil)))))))))))))))))) (by kernel_rfl) (fun η => (by kernel_rfl)) ?_
    intro η_1
    exact s_ret (.bool true) ⟨env_ok, hS⟩ (by kernel_rfl) rfl (by kernel_rfl) (fun β => (by kernel_rfl)) (fun S w hs hw hG => ⟨rfl, hw⟩)
  · have hn : ∀ q, l ≠ rstr q := fun q h => hp ⟨q, h⟩
    refine s_K (.tup [(true, [.bb false, .sl (.slice none 0 0) 0, .bb false, .sl (.slice none 0 0) 0]), (false, [.bb false])]) ⟨env_ok, hS⟩ (by kernel_rfl) (by kernel_rfl) (svB_ok rfl) rfl (fun β S w hS hs hw hG => ⟨_, (by kernel_rfl), zread_n hS hl hn⟩) ?_
    refine s_K (.tup [(true, [.bb false, .sl (.slice none 0 0) 0, .sl (.slice none 0 0) 0]), (false, [.lit .i64 10])]) ⟨env_ok, hS⟩ (by kernel_rfl) (by kernel_rfl) (svB_ok rfl) rfl (fun β S w hS hs hw hG => ⟨_, (by kernel_rfl), rparse_n hS hl hn⟩) ?_
    refine s_K (.one (.lit .i64 0)) ⟨env_ok, hS⟩ (by kernel_rfl) (by kernel_rfl) (svB_ok rfl) rfl (fun β S w hS hs hw hG => ⟨_, (by kernel_rfl), gK (rsign_c (S := All) (q := 0) zero_rat) rfl⟩) ?_
    refine s_K (.one (.bb true)) ⟨env_ok, hS⟩ (by kernel_rfl) (by kernel_rfl) (svB_ok rfl) rfl (fun β S w hS hs hw hG => ⟨_, (by kernel_rfl), awake_c (ht.to hw)⟩) ?_
    exact s_ret (.bool true) ⟨env_ok, hS⟩ (by kernel_rfl) rfl (by kernel_rfl) (fun β => (by kernel_rfl)) (fun S w hs hw hG => ⟨rfl, hw⟩)
end Go.Proofs.YtpmnjjmngogkkaaGreatDoor
end

section
set_option linter.unusedVariables false
namespace Go.Proofs.YtpmnjjmngogkkaaGreatDoor
open Go Go.ChangeShapes Go.WideShapes Go.ChangeAt Go.WideMaps Go.WideElems Go.RowKit
theorem own : ownKnob Tryz.prog.godebug = none := by kernel_rfl
theorem gTab : Tryz.prog.globalNamed "internal/strconv.uint64pow10" = some 3 := by kernel_rfl
theorem tTab : (Tryz.prog.globals[3]?).map (·.type) = some 251 := by kernel_rfl
theorem cTab : Tryz.prog.cellsOf 251 = 20 := by kernel_rfl
theorem cTabE : Tryz.prog.cellsOf 117 = 1 := by kernel_rfl
theorem dTab : (Rows.laid_internal_strconv_uint64pow10 : DataW Unit) = Lib.tabData .u64 Lib.pow10Tab := by rfl
end Go.Proofs.YtpmnjjmngogkkaaGreatDoor
end

section
set_option linter.unusedVariables false
namespace Go.Proofs.YtpmnjjmngogkkaaGreatDoor
open Go Go.ChangeShapes Go.WideShapes Go.ChangeAt Go.WideMaps Go.WideElems Go.RowKit
open Go.ChangeMaps (open_string shut_string)
theorem gErr : Tryz.prog.globalNamed "strconv.ErrRange" = some 2 := by kernel_rfl
theorem tErr : (Tryz.prog.globals[2]?).map (·.type) = some 145 := by kernel_rfl
/-- What the condition of the rows with seven listed variables gives the walks. -/
theorem trod_iface {H : Type} {enc : TypeId × Value → H} {P : Program} {w : World} {base : Nat} {sp : Nat → Bool} {held : Bool} {fuel : Nat} {t : TypeId} {cs : List Value} {n : String} {d : DataW H} {p : List MemPlace}
    (ht0 : ∃ ms, P.underlying t = some (.interface ms)) (h : DataW.trod enc P w base sp held fuel t cs = some (.iface n d, p)) : ∃ u v, cs = [.iface u v] := by
  obtain ⟨ms, ht⟩ := ht0
  cases fuel with
  | zero => simp [DataW.trod] at h
  | succ fuel =>
    unfold DataW.trod at h
    rw [ht] at h
    simp only at h
    split at h <;> simp_all
theorem p6_tab {W : World} (h : laidMetH Tryz.prog Rows.fracReadsRow.laid W) : Tab W ∧ RangeV W := by
  rw [MakeChecks.laidMetH_plain _ _ _ (by kernel_rfl)] at h
  obtain ⟨ps, ⟨g0, t0, cs0, f0, p0, q0, hg0, ht0, hv0, hd0, ⟨g1, t1, cs1, f1, p1, q1, hg1, ht1, hv1, hd1, ⟨g2, t2, cs2, f2, p2, q2, hg2, ht2, hv2, hd2, ⟨g3, t3, cs3, f3, p3, q3, hg3, ht3, hv3, hd3, ⟨g4, t4, cs4, f4, p4, q4, hg4, ht4, hv4, hd4, _⟩, _⟩, _⟩, _⟩, _⟩, _⟩ := h
  obtain rfl := Option.some.inj (gTab.symm.trans hg2)
  obtain rfl := Option.some.inj (tTab.symm.trans ht2)
  rw [dTab] at hd2
  refine ⟨?_, ?_⟩
  · unfold Tab Lib.TabIs
    rw [hv2, ← Lib.cells_of_tab Tryz.underlying251 Tryz.underlying117 cTabE cTab hd2]
  · obtain rfl := Option.some.inj (gErr.symm.trans hg4)
    obtain rfl := Option.some.inj (tErr.symm.trans ht4)
    obtain ⟨u, v, hc⟩ := trod_iface ⟨_, Tryz.underlying145⟩ hd4
    refine ⟨u, v, ?_⟩
    rw [hv4, ← hc]
theorem p6_laid (os : Os) (args : Array Value) : laidMetH Tryz.prog Rows.fracReadsRow.laid ((World.laidAll Tryz.prog os Rows.fracReadsRow.laid).forCall (fun _ _ => 0) ⟨#[], args, []⟩).memory := by
  rw [MakeChecks.laidMetH_plain _ _ _ (by kernel_rfl)]
  exact laidMet_laidAll _ (by kernel_rfl) (by kernel_rfl)
set_option maxRecDepth 100000 in
theorem reads_lifted (os : Os) (started : os.Started) (H : Type) (enc : TypeId × Value → H) :
    ReturnsInHanded {} Tryz.checked os 8 .any (fun w args => (Rows.fracReadsSpec.pre enc Tryz.prog Tryz.f8 [] false w args ∧ laidMetH Tryz.prog Rows.fracReadsRow.laid w) ∧ sizedMet enc Tryz.prog Tryz.f8 (OpenSpec.ofChange Rows.fracReadsSpec) false w args)
      (Rows.fracReadsSpec.post enc Tryz.prog Tryz.f8 false true false false) := by
  refine returnsInHanded_of_change_and (C := Tryz.checked) (X := fun w _ => laidMetH Tryz.prog Rows.fracReadsRow.laid w) (fun _ _ _ hh h => h.of_heap hh) own started (by kernel_rfl) Tryz.func8
    (ChangeSpec.witness_shaped (enc := enc) (C := Tryz.checked) (os := os) (X := fun w _ => laidMetH Tryz.prog Rows.fracReadsRow.laid w) false (World.laidAll Tryz.prog os Rows.fracReadsRow.laid) #[.string ⟨#[]⟩] 8 (World.laidAll_os _ _ _) (World.shaped_of_ZipB (by kernel_rfl) (by kernel_rfl)) (by kernel_rfl) (by kernel_rfl) (by kernel_rfl) (p6_laid os _)) ?_
  intro W base args ds gs before hval0 hW _ _ hL _
  have hval : ∀ (j : Nat) t v, Tryz.f8.params[j]? = some t → args[j]? = some v → Value.okWide Tryz.prog W .any base t v := hval0
  have hW' := hW
  obtain ⟨p, q, hA0, hV, rfl, hfz, hnd⟩ := hW
  have hA : DataW.TrodAll enc Tryz.prog W 0 (fun _ => true) true Tryz.f8.params.toList args.toList ds p := hA0
  rw [Tryz.params8] at hA hval
  obtain ⟨v0, d0, rfl, rfl, h0⟩ := trodAll_one hA
  obtain ⟨rfl, rfl⟩ := trodVars_none hV
  obtain ⟨s, rfl, rfl, rfl, hs⟩ := open_string Tryz.underlying9 (hval 0 9 v0 rfl rfl) h0
  clear hA0 hval0
  simp only [List.append_nil] at hW'
  refine Calls.mono (fracReads_c (s := s.data.toList) (p6_tab hL).1 (p6_tab hL).2) fun e W' ⟨v, he, hv, hw⟩ => ?_
  subst he hv
  refine ⟨_, rfl, _, _, _, [], [], [], hW', ?_, ?_, rfl, hw.below.frame _, fun h => by cases h⟩
  · exact trodAll_mk1 (shut_bool Tryz.underlying4 _)
  · exact trodAll_mk1 (shut_string Tryz.underlying9 hs)
theorem reads_row : Rows.FracReadsSaid :=
  OpenClaim.holds_of_wide 8 Tryz.f8 rfl rfl rfl rfl rfl rfl rfl ⟨rfl, rfl, rfl, rfl, rfl⟩ rfl rfl rfl rfl rfl (by kernel_rfl) Tryz.func8 (by kernel_rfl)
    (of_decide_eq_true (by kernel_rfl)) (by unfold Func.isWrapper; first | (rw [if_pos (by decide +kernel)]; kernel_rfl) | (rw [if_neg (by decide +kernel)]; exact ⟨rfl, rfl⟩))
    (fun os started H enc _ => reads_lifted os started H enc)
theorem reads_holds : Rows.FracReadsCardSaid :=
  Claim7.holds_tied_plain_at .later [] [.data, .data, .data, .data, .sentinel, .sentinel, .pinned] true (true, "650b10b7f83fe311f89b80045fa31e214c315223ee2619adf08cc50f1eb5f2c2") true
    reads_row (fun _ h => by cases h) (by kernel_rfl) (fun _ h => by cases h) fracReads_row_tie rfl ⟨rfl, rfl⟩ (by kernel_rfl) rfl
    (fun f fn hf hfn => by
      obtain rfl : f = 8 := Option.some.inj ((show Tryz.prog.funcNamed "rabbet/rabbetlaw01.FracReads" = some 8 by kernel_rfl).symm.trans hf) |>.symm
      obtain rfl : fn = Tryz.f8 := (Option.some.inj (Tryz.func8.symm.trans hfn)).symm
      exact ⟨by kernel_rfl, fun j t ht => by
        rw [Tryz.params8] at ht
        have h3 : t = 9 := by
          rcases j with _ | j
          · simpa using ht.symm
          · simp at ht
        subst h3
        exact (show Tryz.prog.wantsStandIn 9 = false by kernel_rfl)⟩)
    (by kernel_rfl)
end Go.Proofs.YtpmnjjmngogkkaaGreatDoor
end
