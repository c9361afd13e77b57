/- Regions that draw their order, a store among them: as XDraw, over any relation of worlds. It holds for every program. -/
import Derived.Test.YtpmnjjmngogkkaaGreatDoorDraw
set_option linter.unusedVariables false
set_option linter.unusedSimpArgs false
namespace Go.Proofs.YtpmnjjmngogkkaaGreatDoor
open Go Go.RowKit

/-- What is known of an operation's value. -/
structure EntR (R : World → World → Prop) where
  X : Option Value
  p : Value → World → Prop
  keep : ∀ v w w', p v w → R w w' → p v w'
  hX : ∀ v w Y, p v w → X = some Y → v = Y
  hY : ∀ Y w, X = some Y → p Y w
def EntR.eq {R : World → World → Prop} (Y : Value) : EntR R := ⟨some Y, fun v _ => v = Y, fun _ _ _ h _ => h, fun v w Z h hZ => by simp at hZ; rw [← hZ]; exact h, fun Z w hZ => by simp at hZ; exact hZ.symm⟩
def EntR.of {R : World → World → Prop} (p : Value → World → Prop) (h : ∀ v w w', p v w → R w w' → p v w') : EntR R := ⟨none, p, h, fun v w Y _ h => by simp at h, fun Y w h => by simp at h⟩

/-- Operations of the head that have run, the last one first. -/
abbrev AccR (R : World → World → Prop) := List (Nat × Option Tmp × EntR R)
def frAR {R : World → World → Prop} (ρ : Fr) (x : Nat → Value) : AccR R → Fr
  | [] => ρ
  | (i, d, e) :: r => updO (frAR ρ x r) d (e.X.getD (x i))
def depsAR {R : World → World → Prop} (x : Nat → Value) (w : World) (es : List Edge) : AccR R → Prop
  | [] => True
  | (i, _, e) :: r => (bif hasEdge es i then e.p (e.X.getD (x i)) w else True) ∧ depsAR x w es r
def allAR {R : World → World → Prop} (x : Nat → Value) (w : World) : AccR R → Prop
  | [] => True
  | (i, _, e) :: r => e.p (e.X.getD (x i)) w ∧ allAR x w r
/-- A slot's value, if there is a slot. -/
def vv (ρ : Fr) : Option Tmp → Value | some t => ρ t | none => undef
def obQR {R : World → World → Prop} (w : World) (d : Option Tmp) (e : EntR R) : Post := fun ex ρ' w' => ex = .normal ∧ R w w' ∧ e.p (vv ρ' d) w'
def ObsR {R : World → World → Prop} (P : Program) (n : Nat) (all : List Oper) (ρ : Fr) (w : World) (K : AccR R → Prop) : AccR R → Nat → List Oper → Prop
  | acc, _, [] => K acc
  | acc, i, o :: r => ∃ e : EntR R, (∀ x w', R w w' → depsAR x w' o.after.toList acc → WpR P n all (obQR w' o.dst e) [o] (frAR ρ x acc) w') ∧ ObsR P n all ρ w K ((i, o.dst, e) :: acc) (i + 1) r

/-- The form of the region: the head's slots are apart, each operation waits for those that it reads; the tail waits for all. -/
def headOkR : List (Nat × Option Tmp) → Nat → List Oper → Bool
  | _, _, [] => true
  | done, i, o :: r =>
    (match o.dst with | some d => done.all (fun p => p.2 != some d) | none => true) &&
    (match o.op with | .select .. => false | _ => true) &&
    o.after.toList.all (fun e => !Region.binds .any e || Nat.blt e.on i) &&
    done.all (fun p => hasEdge o.after.toList p.1 || match p.2 with | some d => !(operTmps o).contains d && (match o.guard with | some (g, _) => g != p.1 | none => true) | none => true) &&
    (match o.guard with | some (g, _) => Nat.blt g i | none => true) &&
    (r.all fun o' => match o.dst with | some d => !(operTmps o).contains d | none => true) &&
    headOkR ((i, o.dst) :: done) (i + 1) r
def drawOkR (l : List Oper) (t : Nat) : Bool :=
  headOkR [] 0 (l.take t) && lateOk (l.take t) && Nat.blt t l.length && Region.sinkB .any l.toArray t && Region.chainB .any l.toArray t && Region.seqB .any l.toArray (l.length - t) t (canonListed t l.length)

section
variable {R : World → World → Prop} {P : Program} {n : Nat} {all : List Oper} {ρ : Fr} {w : World} {K : AccR R → Prop}
abbrev TripR (R : World → World → Prop) := Nat × Option Tmp × EntR R
def ObR (P : Program) (n : Nat) (all : List Oper) (ρ : Fr) (w : World) (o : Oper) (acc : AccR R) (e : EntR R) : Prop :=
  ∀ x w', R w w' → depsAR x w' o.after.toList acc → WpR P n all (obQR w' o.dst e) [o] (frAR ρ x acc) w'
theorem obs_listR : ∀ (r : List Oper) (acc : AccR R) (i : Nat), ObsR P n all ρ w K acc i r →
    ∃ L : List (TripR R), L.length = r.length ∧ K (L.reverse ++ acc) ∧ ∀ k (hk : k < r.length), ∃ e, L[k]? = some (i + k, r[k].dst, e) ∧ ObR P n all ρ w r[k] ((L.take k).reverse ++ acc) e := by
  intro r
  induction r with
  | nil => intro acc i h; exact ⟨[], rfl, h, fun k hk => absurd hk (by simp)⟩
  | cons o r ih =>
    rintro acc i ⟨e, ho, hr⟩
    obtain ⟨L, hl, hK, hL⟩ := ih _ _ hr
    refine ⟨(i, o.dst, e) :: L, by simp [hl], by simpa using hK, fun k hk => ?_⟩
    cases k with
    | zero => exact ⟨e, rfl, ho⟩
    | succ k =>
      obtain ⟨e', h1, h2⟩ := hL k (by simpa using hk)
      refine ⟨e', ?_, ?_⟩
      · simp only [List.getElem?_cons_succ, h1, List.getElem_cons_succ]
        rw [show i + 1 + k = i + (k + 1) by omega]
      · simpa using h2

/-- What headOkR says of one operation. -/
structure HOkR (done : List (Nat × Option Tmp)) (i : Nat) (o : Oper) : Prop where
  dst : ∀ d, o.dst = some d → ∀ p ∈ done, p.2 ≠ some d
  sel : ∀ cs b, o.op ≠ .select cs b
  low : ∀ e ∈ o.after, Region.binds .any e = true → e.on < i
  deps : ∀ p ∈ done, ∀ d, p.2 = some d → hasEdge o.after.toList p.1 = true ∨ (d ∉ operTmps o ∧ ∀ g b, o.guard = some (g, b) → g ≠ p.1)
  guard : ∀ g b, o.guard = some (g, b) → g < i
theorem headOk_listR : ∀ (r : List Oper) (done : List (Nat × Option Tmp)) (i : Nat), headOkR done i r = true → ∀ k (hk : k < r.length),
    HOkR (((List.range k).map fun j => (i + j, (r[j]?.bind (·.dst)))).reverse ++ done) (i + k) r[k] := by
  intro r
  induction r with
  | nil => intro done i h k hk; exact absurd hk (by simp)
  | cons o r ih =>
    intro done i h k hk
    simp only [headOkR, Bool.and_eq_true] at h
    obtain ⟨⟨⟨⟨⟨⟨h1, h2⟩, h3⟩, h4⟩, h5⟩, h6⟩, h7⟩ := h
    cases k with
    | zero =>
      simp only [List.range_zero, List.map_nil, List.reverse_nil, List.nil_append, Nat.add_zero, List.getElem_cons_zero]
      refine ⟨?_, ?_, ?_, ?_, ?_⟩
      · intro d hd p hp
        rw [hd] at h1
        have := List.all_eq_true.1 h1 p hp
        simpa using this
      · intro cs b e
        rw [e] at h2
        cases h2
      · intro e he hb
        have := List.all_eq_true.1 h3 e (Array.mem_toList_iff.2 he)
        simp only [hb, Bool.not_true, Bool.false_or] at this
        exact Nat.le_of_ble_eq_true this
      · intro p hp d hd
        have := List.all_eq_true.1 h4 p hp
        simp only [Bool.or_eq_true, hd, Bool.and_eq_true] at this
        rcases this with h | ⟨ha, hb⟩
        · exact .inl h
        · refine .inr ⟨by simpa using ha, fun g b hg => ?_⟩
          rw [hg] at hb
          simpa using hb
      · intro g b hg
        rw [hg] at h5
        exact Nat.le_of_ble_eq_true h5
    | succ k =>
      have := ih _ _ h7 k (by simpa using hk)
      have e1 : ((List.range (k + 1)).map fun j => (i + j, ((o :: r)[j]?.bind (·.dst)))).reverse ++ done = ((List.range k).map fun j => (i + 1 + j, (r[j]?.bind (·.dst)))).reverse ++ ((i, o.dst) :: done) := by
        rw [List.range_succ_eq_map]
        simp only [List.map_cons, List.map_map, List.reverse_cons, List.append_assoc, List.cons_append, List.nil_append, List.getElem?_cons_zero, Option.bind_some, Nat.add_zero]
        congr 2
        refine List.map_congr_left fun j _ => ?_
        simp only [Function.comp, List.getElem?_cons_succ]
        rw [show i + (j + 1) = i + 1 + j by omega]
      rw [e1, show i + (k + 1) = i + 1 + k by omega]
      simpa using this
theorem frA_outR {x : Nat → Value} {s : Nat} : ∀ {acc : AccR R}, (∀ p ∈ acc, p.2.1 ≠ some s) → frAR ρ x acc s = ρ s := by
  intro acc
  induction acc with
  | nil => intro _; rfl
  | cons a r ih =>
    intro h
    obtain ⟨i, d, e⟩ := a
    have h1 := h _ (List.mem_cons_self ..)
    have h2 := ih fun p hp => h p (List.mem_cons_of_mem _ hp)
    cases d with
    | none => exact h2
    | some d =>
      show upd _ d _ s = _
      rw [upd_ne, h2]
      cases hb : Nat.beq s d with
      | false => rfl
      | true => exact absurd (congrArg some (Nat.eq_of_beq_eq_true hb).symm) h1
theorem frA_inR {x : Nat → Value} {s i : Nat} {e : EntR R} : ∀ {acc : AccR R}, (i, some s, e) ∈ acc → (∀ p ∈ acc, p.2.1 = some s → p = (i, some s, e)) → frAR ρ x acc s = e.X.getD (x i) := by
  intro acc
  induction acc with
  | nil => intro h; cases h
  | cons a r ih =>
    intro h hu
    obtain ⟨j, d, e'⟩ := a
    by_cases hd : d = some s
    · have := hu _ (List.mem_cons_self ..) hd
      simp only [Prod.mk.injEq] at this
      obtain ⟨rfl, rfl, rfl⟩ := this
      exact upd_same _ _ _
    · have hm : (i, some s, e) ∈ r := by
        rcases List.mem_cons.1 h with h | h
        · simp only [Prod.mk.injEq] at h; exact absurd h.2.1.symm hd
        · exact h
      have h2 := ih hm fun p hp => hu p (List.mem_cons_of_mem _ hp)
      cases d with
      | none => exact h2
      | some d =>
        show upd _ d _ s = _
        rw [upd_ne, h2]
        cases hb : Nat.beq s d with
        | false => rfl
        | true => exact absurd (congrArg some (Nat.eq_of_beq_eq_true hb).symm) hd
theorem depsA_ofR {x : Nat → Value} {w' : World} {es : List Edge} : ∀ {acc : AccR R}, (∀ p ∈ acc, hasEdge es p.1 = true → p.2.2.p (p.2.2.X.getD (x p.1)) w') → depsAR x w' es acc := by
  intro acc
  induction acc with
  | nil => intro _; trivial
  | cons a r ih =>
    intro h
    obtain ⟨i, d, e⟩ := a
    refine ⟨?_, ih fun p hp => h p (List.mem_cons_of_mem _ hp)⟩
    cases hb : hasEdge es i with
    | false => trivial
    | true => exact h _ (List.mem_cons_self ..) hb
theorem allA_ofR {x : Nat → Value} {w' : World} : ∀ {acc : AccR R}, (∀ p ∈ acc, p.2.2.p (p.2.2.X.getD (x p.1)) w') → allAR x w' acc := by
  intro acc
  induction acc with
  | nil => intro _; trivial
  | cons a r ih =>
    intro h
    obtain ⟨i, d, e⟩ := a
    exact ⟨h _ (List.mem_cons_self ..), ih fun p hp => h p (List.mem_cons_of_mem _ hp)⟩

/-- One operation of the head, met at a frame that it cannot tell from the other one. -/
theorem one_opR {R : World → World → Prop} {P : Program} {n : Nat} {D : List Deferred} {all : List Oper} {o : Oper} {e : EntR R} {F ρ' : Fr} {a : Act} {w' : World} {K : Act → World → Prop} {Q : Exit → Act → World → Prop} {i : Nat}
    (hi : all[i]? = some o) (hok : dstOk n o = true) (hsel : ∀ cs b, o.op ≠ .select cs b) (hF : ∀ k, n ≤ k → F k = undef) (hm : Mt n D a ρ')
    (heq : ∀ s ∈ operTmps o, F s = ρ' s) (hg : ∀ g b, o.guard = some (g, b) → ∀ s, dstAt all g = some s → F s = ρ' s)
    (h : WpR P n all (obQR w' o.dst e) [o] F w') (hK : ∀ v w2, R w' w2 → e.p (vv (updO ρ' o.dst v) o.dst) w2 → K (a.put o.dst v) w2) : wpOp P all.toArray Q i K a w' := by
  have hm2 := actOf_mt (D := D) hF
  unfold WpR at h
  have h2 := h (by simp [hok]) _ _ hm2
  have hev : execOp a.eval o = execOp (actOf n D F).eval o := by
    refine execOp_congr o hsel fun x hx => ?_
    cases x with
    | tmp s =>
      show a.tmps.getD s undef = (actOf n D F).tmps.getD s undef
      rw [hm.get, hm2.get]
      refine (heq s ?_).symm
      exact List.mem_filterMap.2 ⟨.tmp s, Array.mem_toList_iff.2 hx, rfl⟩
    | _ => rfl
  have hw : Region.wanted o (yielded all.toArray a.tmps) = Region.wanted o (yielded all.toArray (actOf n D F).tmps) := by
    unfold Region.wanted
    cases hgd : o.guard with
    | none => rfl
    | some gb =>
      obtain ⟨g, b⟩ := gb
      have hy : yielded all.toArray a.tmps g = yielded all.toArray (actOf n D F).tmps g := by
        unfold yielded
        cases hs : dstAt all g with
        | none =>
          have : ((all.toArray)[g]?).bind (·.dst) = none := by simpa [dstAt] using hs
          rw [this]; rfl
        | some s =>
          have : ((all.toArray)[g]?).bind (·.dst) = some s := by simpa [dstAt] using hs
          rw [this]
          have h3 : a.tmps.getD s undef = (actOf n D F).tmps.getD s undef := by rw [hm.get, hm2.get]; exact (hg g b hgd s hs).symm
          have s1 := hm.size
          have s2 := hm2.size
          by_cases hlt : s < n
          · have l1 : s < a.tmps.size := by omega
            have l2 : s < (actOf n D F).tmps.size := by omega
            simp only [Array.getD, l1, l2, dite_true] at h3
            have h4 : a.tmps[s] = (actOf n D F).tmps[s] := h3
            simp only [Option.bind_some, Array.getElem?_eq_getElem l1, Array.getElem?_eq_getElem l2, h4]
          · have l1 : a.tmps.size ≤ s := by omega
            have l2 : (actOf n D F).tmps.size ≤ s := by omega
            simp only [Option.bind_some, Array.getElem?_eq_none l1, Array.getElem?_eq_none l2]
      simp only [hy]
  have hpost : ∀ v w2, lift n D (obQR w' o.dst e) .normal ((actOf n D F).put o.dst v) w2 → R w' w2 ∧ e.p (vv (updO ρ' o.dst v) o.dst) w2 := by
    rintro v w2 ⟨ρ2, hm3, _, hx, hp⟩
    refine ⟨hx, ?_⟩
    cases hdst : o.dst with
    | none => rw [hdst] at hp; exact hp
    | some d =>
      have hdn : Nat.blt d n = true := by unfold dstOk at hok; rw [hdst] at hok; exact hok
      have h3 := (hm2.put hdn v).get d
      rw [upd_same] at h3
      have h4 := hm3.get d
      rw [hdst, h3] at h4
      rw [hdst] at hp
      show e.p (upd ρ' d v d) w2
      rw [upd_same, h4]
      exact hp
  have hio : (all.toArray)[i]? = some o := by simpa using hi
  have hnl : ¬ LetsOut (lift n D (obQR w' o.dst e)) := by
    rintro ⟨a0, w0, ρ0, _, h0, _⟩
    cases h0
  unfold wpOp
  simp only [hio, hw]
  unfold wpList at h2
  cases hwd : Region.wanted o (yielded all.toArray (actOf n D F).tmps) with
  | true =>
    simp only [hwd, if_true] at h2 ⊢
    rcases h2 with h2 | ⟨_, h2⟩
    · left
      unfold Oper.wp at h2 ⊢
      rw [hev]
      refine upon_conv (fun v w2 hk => ?_) (fun dd v w2 hk => ?_) (fun c a0 w0 hc => ?_) hnl h2
      · obtain ⟨h5, h6⟩ := hpost v w2 hk
        exact hK v w2 h5 h6
      · obtain ⟨ρ2, hm3, _⟩ := hk
        have := hm3.defers
        have h9 : (actOf n D F).defers = D := rfl
        cases hdd : o.dst <;> simp [hdd, Act.put, h9] at this
      · obtain ⟨ρ0, _, h0, _⟩ := hc
        cases h0
    · exact (hnl h2).elim
  | false =>
    simp only [hwd, Bool.false_eq_true, if_false] at h2 ⊢
    obtain ⟨h5, h6⟩ := hpost undef w' h2
    exact hK undef w' h5 h6

theorem wp_drawnR {R : World → World → Prop} {P : Program} {n : Nat} {Q : Post} {ρ : Fr} {w : World} {id : Nat} {l : List Oper} (t : Nat) (hRt : ∀ {a b c : World}, R a b → R b c → R a c) (hRd : ∀ w : World, R w { w with drawn := w.drawn + 1 }) (hmo : P.follows .mixedOrders = true) (hchk : drawOkR l t = true)
    (h : ObsR P n l ρ w (fun (acc : AccR R) => ∀ x w', R w w' → allAR x w' acc → WpR P n l Q (l.drop t) (frAR ρ x acc) w') [] 0 (l.take t)) : Wp P n (.region id l.toArray true) Q ρ w := by
  simp only [drawOkR, Bool.and_eq_true] at hchk
  obtain ⟨⟨⟨⟨⟨c1, c2⟩, c3⟩, c4⟩, c5⟩, c6⟩ := hchk
  have htl : t < l.length := Nat.le_of_ble_eq_true c3
  have htk : (l.take t).length = t := by rw [List.length_take]; omega
  obtain ⟨L, hL, hK, hO⟩ := obs_listR _ _ _ h
  rw [htk] at hL
  simp only [List.append_nil] at hK hO
  have hget : ∀ k (hk : k < t), (l.take t)[k]'(by omega) = l[k] := fun k hk => by simp
  have hHd0 := headOk_listR _ _ _ c1
  have hHd : ∀ k (hk : k < t), HOkR (((List.range k).map fun j => (0 + j, ((l.take t)[j]?.bind (·.dst)))).reverse ++ []) (0 + k) ((l.take t)[k]'(by omega)) := fun k hk => hHd0 k (by omega)
  have hLt := lateOk_list _ c2
  unfold Wp
  intro hc D act hmt
  simp only [codeOk, List.all_eq_true] at hc
  refine wp_region_any hmo ?_
  have hw1 : R w { w with drawn := w.drawn + 1 } := hRd w
  have hsz : l.toArray.size = t + (l.length - t) := by simp; omega
  have hund : ∀ i, n ≤ i → ρ i = undef := fun i hi => by rw [← hmt.get i]; simp [Array.getD, hmt.size]; omega
  -- the slots of the head
  have hds : ∀ k (hk : k < t), ∃ e : EntR R, L[k]? = some (k, l[k].dst, e) ∧ dstOk n l[k] = true ∧ ObR P n l ρ w l[k] ((L.take k).reverse) e := by
    intro k hk
    obtain ⟨e, h1, h2⟩ := hO k (by omega)
    rw [Nat.zero_add] at h1
    rw [hget k hk] at h1 h2
    exact ⟨e, by simpa using h1, hc l[k] (by simp), h2⟩
  have hapart : ∀ j k (hj : j < t) (hk : k < t) d, j < k → l[j].dst = some d → l[k].dst ≠ some d := by
    intro j k hj hk d hjk hd hd2
    refine (hHd k hk).dst d (by rw [hget k hk]; exact hd2) (0 + j, ((l.take t)[j]?.bind (·.dst))) ?_ ?_
    · refine List.mem_append_left _ (List.mem_reverse.2 (List.mem_map.2 ⟨j, List.mem_range.2 hjk, rfl⟩))
    · rw [List.getElem?_eq_getElem (by omega)]
      simp only [Option.bind_some, hget j hj, hd]
  have huniq : ∀ j k (hj : j < t) (hk : k < t) d, l[j].dst = some d → l[k].dst = some d → j = k := by
    intro j k hj hk d h1 h2
    rcases Nat.lt_trichotomy j k with h | h | h
    · exact absurd h2 (hapart j k hj hk d h h1)
    · exact h
    · exact absurd h1 (hapart k j hk hj d h h2)
  -- the accumulated triples
  have hmem : ∀ m, m ≤ t → ∀ p ∈ (L.take m).reverse, ∃ k, ∃ hk : k < t, k < m ∧ p.1 = k ∧ p.2.1 = l[k].dst ∧ L[k]? = some p := by
    intro m hm p hp
    rw [List.mem_reverse] at hp
    obtain ⟨k, hk, hpk⟩ := List.mem_iff_getElem.1 hp
    simp only [List.length_take] at hk
    have hkt : k < t := by omega
    have h1 : L[k]? = some p := by
      rw [List.getElem_take] at hpk
      rw [← hpk]
      exact List.getElem?_eq_getElem (by omega)
    obtain ⟨e, h2, _⟩ := hds k hkt
    have h4 := h1.symm.trans h2
    simp only [Option.some.injEq] at h4
    exact ⟨k, hkt, by omega, by rw [h4], by rw [h4], h1⟩
  have hin : ∀ m, m ≤ t → ∀ k (hk : k < t), k < m → ∀ q, L[k]? = some q → q ∈ (L.take m).reverse := by
    intro m hm k hk hkm q hq
    rw [List.mem_reverse]
    refine List.mem_of_getElem? (i := k) ?_
    rw [List.getElem?_take, if_pos hkm]
    exact hq
  -- the invariant
  let Inv : Array Bool → Act → World → Prop := fun listed a w' => ∃ ρ', Mt n D a ρ' ∧ R w w' ∧ (∀ s, (∀ k (hk : k < t), l[k].dst ≠ some s) → ρ' s = ρ s) ∧
    (∀ k, k < t → listed.getD k false = true → ∀ d e, L[k]? = some (k, d, e) → e.p (vv ρ' d) w')
  have fin : ∀ listed a w', HeadInv .any l.toArray t listed → unl listed t = 0 → Inv listed a w' → wpAny P .any l.toArray (lift n D Q) (l.length - t) listed a w' := by
    rintro listed a w' inv h0 ⟨ρ', hm', hx, hout, hp⟩
    have hz := unl_zero h0
    have hcan : listed = canonListed t l.length := by
      refine Array.ext (by rw [inv.size]; simp [canonListed]) fun i h1 h2 => ?_
      have hsz2 := inv.size
      have hil : i < l.length := by simpa [hsz2] using h1
      by_cases hit : i < t
      · have h3 := hz i hit
        simp only [Array.getD, h1, dite_true] at h3
        have h4 : listed[i] = true := h3
        simp [canonListed, h4, hit]
      · have h3 := inv.tail i (by omega) (by simpa using hil)
        simp only [Array.getD, h1, dite_true] at h3
        have h4 : listed[i] = false := h3
        simp [canonListed, h4]
        omega
    have hall : ∀ k, k < t → ∀ d e, L[k]? = some (k, d, e) → e.p (vv ρ' d) w' := fun k hk => hp k hk (hz k hk)
    have hF : frAR ρ (fun k => match L[k]? with | some (_, d, _) => vv ρ' d | none => undef) L.reverse = ρ' := by
      funext s
      by_cases hs : ∃ k, ∃ hk : k < t, l[k].dst = some s
      · obtain ⟨k, hk, hd⟩ := hs
        obtain ⟨e, h1, _⟩ := hds k hk
        rw [hd] at h1
        have hfull : L.take t = L := List.take_of_length_le (by omega)
        have hi1 := hin t (Nat.le_refl _) k hk hk _ h1
        rw [hfull] at hi1
        rw [frA_inR hi1 ?_]
        · simp only [h1]
          have := hall k hk (some s) e h1
          cases hX : e.X with
          | none => rfl
          | some Y => simp only [Option.getD_some]; exact (e.hX _ _ _ this hX).symm
        · intro p hp' hps
          rw [← hfull] at hp'
          obtain ⟨j, hj, _, h3, h4, h5⟩ := hmem t (Nat.le_refl _) p hp'
          rw [hps] at h4
          have := huniq j k hj hk s h4.symm hd
          subst this
          have := h5.symm.trans h1
          simpa using this
      · have hs' : ∀ k (hk : k < t), l[k].dst ≠ some s := fun k hk hd => hs ⟨k, hk, hd⟩
        rw [frA_outR, hout s hs']
        intro p hp' hps
        have hfull : L.take t = L := List.take_of_length_le (by omega)
        rw [← hfull] at hp'
        obtain ⟨j, hj, _, h3, h4, h5⟩ := hmem t (Nat.le_refl _) p hp'
        exact hs' j hj (by rw [← h4, hps])
    have hrun := hK (fun k => match L[k]? with | some (_, d, _) => vv ρ' d | none => undef) w' hx (allA_ofR fun p hp' => by
      have hfull : L.take t = L := List.take_of_length_le (by omega)
      rw [← hfull] at hp'
      obtain ⟨j, hj, _, h3, h4, h5⟩ := hmem t (Nat.le_refl _) p hp'
      obtain ⟨e, h1, _⟩ := hds j hj
      have h6 := h5.symm.trans h1
      simp only [Option.some.injEq] at h6
      subst h6
      simp only [h1]
      have h7 := hall j hj _ e h1
      cases hX : e.X with
      | none => exact h7
      | some Y => exact e.hY _ _ hX)
    rw [hF] at hrun
    unfold WpR at hrun
    have hlen : (l.drop t).length = l.length - t := by simp
    rw [← hlen]
    refine wpAny_of_seq (l.drop t) t listed a w' (fun j => by simp) ?_ (hrun ?_ _ a hm')
    · rw [hcan, hlen]; exact c6
    · rw [List.all_eq_true]
      intro o ho
      exact hc o (by simpa using List.mem_of_mem_drop ho)
  have key : ∀ f listed a w', HeadInv .any l.toArray t listed → unl listed t = f → Inv listed a w' → wpAny P .any l.toArray (lift n D Q) (f + (l.length - t)) listed a w' := by
    intro f
    induction f with
    | zero => intro listed a w' inv h0 hI; rw [Nat.zero_add]; exact fin listed a w' inv h0 hI
    | succ f ih =>
      intro listed a w' inv hf hI
      rw [show f + 1 + (l.length - t) = (f + (l.length - t)) + 1 by omega]
      obtain ⟨i0, hi0, hl0, hlow⟩ := unl_least (show unl listed t ≠ 0 by omega)
      have hsz2 := inv.size
      have hsz3 : listed.size = l.length := by simpa using hsz2
      have hr0 : i0 ∈ Region.ready .any l.toArray listed := by
        rw [mem_ready]
        refine ⟨getD_in (by omega) hl0, l[i0], by simp, fun e he hb => hlow _ ?_⟩
        have := (hHd i0 hi0).low e (by rw [hget i0 hi0]; exact he) hb
        omega
      refine ⟨fun he => absurd (he ▸ hr0) (by simp), fun i hi => ?_⟩
      have hit : i < t := by
        rcases Nat.lt_or_ge i t with h | h
        · exact h
        · exact absurd hi (tail_waits c4 c5 (by simpa using htl) inv _ i0 rfl hi0 (mem_ready.1 hr0).1 i h)
      obtain ⟨hun, oi, hoi, hdep⟩ := mem_ready.1 hi
      have hoi' : l[i] = oi := by simpa [hit, show i < l.length by omega] using hoi
      obtain ⟨ρ', hm', hx, hout, hp⟩ := hI
      obtain ⟨e, h1, h3, h4⟩ := hds i hit
      have hH := hHd i hit
      rw [hget i hit] at hH
      let x : Nat → Value := fun k => match L[k]? with | some (_, d, _) => vv ρ' d | none => undef
      have hdl : ∀ k, hasEdge l[i].after.toList k = true → listed.getD k false = true := by
        intro k hk
        obtain ⟨ed, h5, h6, h7⟩ := hasEdge_spec hk
        rw [← h7]
        exact hdep ed (by rw [← hoi']; exact Array.mem_toList_iff.1 h5) h6
      have hdep2 : depsAR x w' l[i].after.toList ((L.take i).reverse) := depsA_ofR fun p hp' he => by
        obtain ⟨j, hj, hji, h5, h6, h7⟩ := hmem i (by omega) p hp'
        obtain ⟨e', h8, _⟩ := hds j hj
        have h10 := h7.symm.trans h8
        simp only [Option.some.injEq] at h10
        subst h10
        have h11 := hp j hj (hdl j he) _ e' h8
        cases hX : e'.X with
        | none => simp only [x, h8, Option.getD_none]; exact h11
        | some Y => exact e'.hY _ _ hX
      have hF : ∀ s, (∀ k (hk : k < t), l[k].dst = some s → k < i ∧ listed.getD k false = true) → frAR ρ x ((L.take i).reverse) s = ρ' s := by
        intro s hs
        by_cases hsx : ∃ k, ∃ hk : k < t, l[k].dst = some s
        · obtain ⟨k, hk, hd⟩ := hsx
          obtain ⟨hki, hkl⟩ := hs k hk hd
          obtain ⟨e', h8, _⟩ := hds k hk
          rw [hd] at h8
          rw [frA_inR (hin i (by omega) k hk hki _ h8) ?_]
          · have h11 := hp k hk hkl (some s) e' h8
            cases hX : e'.X with
            | none => simp only [x, h8, Option.getD_none, vv]
            | some Y => simp only [Option.getD_some]; exact (e'.hX _ _ _ h11 hX).symm
          · intro p hp' hps
            obtain ⟨j, hj, _, h5, h6, h7⟩ := hmem i (by omega) p hp'
            rw [hps] at h6
            have := huniq j k hj hk s h6.symm hd
            subst this
            simpa using h7.symm.trans h8
        · have hs' : ∀ k (hk : k < t), l[k].dst ≠ some s := fun k hk hd => hsx ⟨k, hk, hd⟩
          rw [frA_outR, hout s hs']
          intro p hp' hps
          obtain ⟨j, hj, _, h5, h6, h7⟩ := hmem i (by omega) p hp'
          exact hs' j hj (by rw [← h6, hps])
      have hoil : l[i]? = some l[i] := List.getElem?_eq_getElem (by omega)
      have hslot : ∀ k (hk : k < t) s, l[k].dst = some s → s ∈ operTmps l[i] → k < i ∧ listed.getD k false = true := by
        intro k hk s hks hso
        have hki : k < i := by
          rcases Nat.lt_or_ge k i with h | h
          · exact h
          · have := hLt i k (by omega) (by omega) h s (by rw [hget k hk]; exact hks)
            rw [hget i hit] at this
            exact absurd hso this
        have h5 := hH.deps (0 + k, ((l.take t)[k]?.bind (·.dst))) (List.mem_append_left _ (List.mem_reverse.2 (List.mem_map.2 ⟨k, List.mem_range.2 hki, rfl⟩))) s (by
          rw [List.getElem?_eq_getElem (by omega)]
          simp only [Option.bind_some, hget k hk, hks])
        rcases h5 with h5 | h5
        · exact ⟨hki, hdl k (by simpa using h5)⟩
        · exact absurd hso h5.1
      refine one_opR (o := l[i]) (e := e) (ρ' := ρ') (F := frAR ρ x ((L.take i).reverse)) hoil h3 hH.sel ?_ hm' ?_ ?_ (h4 x w' hx hdep2) ?_
      · intro k hk
        rw [frA_outR, hund k hk]
        intro p hp' hps
        obtain ⟨j, hj, _, h5, h6, h7⟩ := hmem i (by omega) p hp'
        obtain ⟨e', h8, h10, _⟩ := hds j hj
        rw [hps] at h6
        unfold dstOk at h10
        rw [← h6] at h10
        have := Nat.le_of_ble_eq_true h10
        omega
      · intro s hs
        exact hF s fun k hk hks => hslot k hk s hks hs
      · intro g b hgd s hs
        refine hF s fun k hk hks => ?_
        have hgi := hH.guard g b hgd
        have hgt : g < t := by omega
        have hgs : l[g].dst = some s := by
          unfold dstAt at hs
          rw [List.getElem?_eq_getElem (by omega)] at hs
          simpa using hs
        obtain rfl := huniq k g hk hgt s hks hgs
        have h5 := hH.deps (0 + k, ((l.take t)[k]?.bind (·.dst))) (List.mem_append_left _ (List.mem_reverse.2 (List.mem_map.2 ⟨k, List.mem_range.2 (by omega), rfl⟩))) s (by
          rw [List.getElem?_eq_getElem (by omega)]
          simp only [Option.bind_some, hget k hk, hks])
        rcases h5 with h5 | h5
        · exact ⟨by omega, hdl k (by simpa using h5)⟩
        · exact absurd (by omega) (h5.2 k b hgd)
      · intro v w2 hx2 hev
        refine ih _ _ _ (inv.set hi hit) ?_ ⟨updO ρ' l[i].dst v, ?_, hRt hx hx2, ?_, ?_⟩
        · rw [unl_set (by omega) (getD_both hun), if_pos hit]; omega
        · exact hm'.putO h3 v
        · intro s hs
          cases hdi : l[i].dst with
          | none => exact hout s hs
          | some d =>
            show upd ρ' d v s = _
            rw [upd_ne, hout s hs]
            cases hb : Nat.beq s d with
            | false => rfl
            | true => exact absurd (by rw [Nat.eq_of_beq_eq_true hb]; exact hdi) (hs i hit)
        · intro k hk hkl d' e' h8
          obtain ⟨e2, h9, _⟩ := hds k hk
          have h11 := h8.symm.trans h9
          simp only [Option.some.injEq, Prod.mk.injEq, true_and] at h11
          obtain ⟨rfl, rfl⟩ := h11
          by_cases hki : i = k
          · subst hki
            have h12 := h8.symm.trans h1
            simp only [Option.some.injEq, Prod.mk.injEq, true_and] at h12
            subst h12
            exact hev
          · rw [getD_set_ne false hki] at hkl
            have hq := e'.keep _ _ _ (hp k hk hkl _ e' h8) hx2
            cases hdk : l[k].dst with
            | none => rw [hdk] at hq; exact hq
            | some d' =>
              rw [hdk] at hq
              cases hdi : l[i].dst with
              | none => exact hq
              | some d =>
                have hne : Nat.beq d' d = false := by
                  cases hb : Nat.beq d' d with
                  | false => rfl
                  | true =>
                    have := Nat.eq_of_beq_eq_true hb
                    subst this
                    exact absurd (huniq k i hk hit d' hdk hdi) (fun e => hki e.symm)
                show e'.p (upd ρ' d v d') w2
                rw [upd_ne hne]
                exact hq
  have hs := key t (Array.replicate l.toArray.size false) act { w with drawn := w.drawn + 1 }
    ⟨by simp, fun j oj _ hl => (by rw [getD_replicate_false] at hl; cases hl), fun k _ hk => getD_in (by simpa using hk) (getD_replicate_false _ _)⟩
    (unl_new _ _ (by simp; omega)) ⟨ρ, hmt, hw1, fun _ _ => rfl, fun k _ hk => (by rw [getD_replicate_false] at hk; cases hk)⟩
  rwa [← hsz] at hs

section
variable {R : World → World → Prop} {P : Program} {n : Nat} {all r : List Oper} {ρ : Fr} {w : World} {K : AccR R → Prop} {acc : AccR R} {i : Nat} {o : Oper}
theorem ob_stepR {e : EntR R} (h1 : ∀ x w', R w w' → depsAR x w' o.after.toList acc → WpR P n all (obQR w' o.dst e) [o] (frAR ρ x acc) w')
    (h2 : ObsR P n all ρ w K ((i, o.dst, e) :: acc) (i + 1) r) : ObsR P n all ρ w K acc i (o :: r) := ⟨e, h1, h2⟩
theorem ob_nilR (h : K acc) : ObsR P n all ρ w K acc i [] := h
theorem ob_eqR {F : Fr} {d : Nat} {v : Value} (hr : R w w) : obQR w (some d) (EntR.eq (R := R) v) .normal (upd F d v) w := ⟨rfl, hr, upd_same _ _ _⟩
theorem ob_ofR {F : Fr} {d : Nat} {v : Value} {w' : World} {p : Value → World → Prop} {h : ∀ v w w', p v w → R w w' → p v w'} (hx : R w w') (hp : p v w') :
    obQR w (some d) (EntR.of p h) .normal (upd F d v) w' := ⟨rfl, hx, by show p (upd F d v d) w'; rw [upd_same]; exact hp⟩
theorem ob_doneR {F : Fr} {w' : World} {p : Value → World → Prop} {h : ∀ v w w', p v w → R w w' → p v w'} (hx : R w w') (hp : p undef w') :
    obQR w none (EntR.of p h) .normal F w' := ⟨rfl, hx, hp⟩
theorem ob_endR {l : List Oper} {Q : Post} (h : ∀ x w', R w w' → allAR x w' acc → WpR P n l Q r (frAR ρ x acc) w') : ∀ x w', R w w' → allAR x w' acc → WpR P n l Q r (frAR ρ x acc) w' := h
end
end

/-- One block is written, once: it holds old or new. -/
def OneW (g : Nat) (T : TypeId) (old new : List Value) (w w' : World) : Prop :=
  Wrt g w w' ∧ ((Blk w g T old ∨ Blk w g T new) → (Blk w' g T old ∨ Blk w' g T new)) ∧ (Blk w g T new → Blk w' g T new)
theorem OneW.refl {g : Nat} {T : TypeId} {old new : List Value} {w : World} : OneW g T old new w w := ⟨.refl, id, id⟩
theorem OneW.trans {g : Nat} {T : TypeId} {old new : List Value} {a b c : World} (h : OneW g T old new a b) (k : OneW g T old new b c) : OneW g T old new a c :=
  ⟨h.1.trans k.1, fun x => k.2.1 (h.2.1 x), fun x => k.2.2 (h.2.2 x)⟩
theorem OneW.of {g : Nat} {T : TypeId} {old new : List Value} {w w' : World} (h : Ext w w') : OneW g T old new w w' :=
  ⟨.of h, fun x => x.imp (fun b => b.to h) fun b => b.to h, fun b => b.to h⟩
theorem OneW.drew {g : Nat} {T : TypeId} {old new : List Value} (w : World) : OneW g T old new w { w with drawn := w.drawn + 1 } := .of (ext_drew w)
theorem OneW.wrote {g : Nat} {T : TypeId} {old new : List Value} {w w' : World} (h : Wrt g w w') (hn : Blk w' g T new) : OneW g T old new w w' := ⟨h, fun _ => .inr hn, fun _ => hn⟩
end Go.Proofs.YtpmnjjmngogkkaaGreatDoor
