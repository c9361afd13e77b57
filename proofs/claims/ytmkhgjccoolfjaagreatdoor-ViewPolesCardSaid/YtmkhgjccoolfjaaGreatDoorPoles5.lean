/- Part 5. -/
import Derived.Test.YtmkhgjccoolfjaaGreatDoorPoles4
import Derived.Test.YtmkhgjccoolfjaaGreatDoorPoles3
import Derived.Test.YtmkhgjccoolfjaaGreatDoorPoles2
import Derived.Deep.Slices
set_option linter.unusedSimpArgs false
set_option linter.unusedVariables false
set_option maxRecDepth 100000
set_option maxHeartbeats 8000000
section
namespace Go.Proofs.YtmkhgjccoolfjaaGreatDoor
open Go Go.RowKit Tryz
def o8 (u : Value) (o : Nat) : Value:=match u with | .pointer (some ⟨g,o0,none⟩)=>.pointer (some ⟨g,o0 + o,none⟩) | _=>.nilFunc
def co7 (u : Value) (o m k : Nat) : Value:=match u with | .pointer (some ⟨g,o0,none⟩)=>.slice (some ⟨g,o0 + o,none⟩) m k | _=>.nilFunc
theorem an4 (u : Value) (o : Nat) : (o8 u o).oneCell' = true:=by unfold o8; split <;> rfl
theorem cy8 (u : Value) (o m k : Nat) : (co7 u o m k).oneCell' = true:=by unfold co7; split <;> rfl
def cb5 (b : Nat) (u : Value) : Nat ⊕ Value → Nat ⊕ Value
 | .inl b'=>bif Nat.beq b' b then .inr u else .inl b'
 | .inr x=>.inr x
def Ch.sub (b : Nat) (u : Value) : Ch → Ch
 | .ptr b' o=>bif Nat.beq b' b then .val (o8 u o) else .ptr b' o
 | .fn g cap=>.fn g (cap.map (cb5 b u))
 | .win b' o m k=>bif Nat.beq b' b then .val (co7 u o m k) else .win b' o m k
 | c=>c
def SV.sub (b : Nat) (u : Value) : SV → SV
 | .one c=>.one (c.sub b u)
 | .agg l=>.agg (l.map (Ch.sub b u))
 | .tup l=>.tup (l.map fun p=>(p.1,p.2.map (Ch.sub b u)))
 | .und=>.und
def HE.sub (b : Nat) (u : Value) : HE → HE
 | .blk T l=>.blk T (l.map (Ch.sub b u))
 | e=>e
def cl5 (b : Nat) (u : Value) : List (Nat × SV) → List (Nat × SV)
 | []=>[]
 | p :: r=>(p.1,p.2.sub b u) :: cl5 b u r
def aw1 (b : Nat) (u : Value) : List HE → List HE
 | []=>[]
 | e :: r=>e.sub b u :: aw1 b u r
def dv4 (b : Nat) (u : Value) (o : Out) : Out:=⟨o.cur,o.k,⟨cl5 b u o.st.fr,aw1 b u (ae1 o.st.hp b .gone)⟩,[]⟩
theorem by4 [Rd] {b : Nat} {u : Value} : ∀ (l : List HE),aw1 b u l = l.map (HE.sub b u):=by
 intro l
 induction l with
 | nil=>rfl
 | cons e r ih=>simp [aw1,ih]
section
variable {b m : Nat} {u : Value} {β : Nat → Nat}
theorem Ch.sub_den [Rd] (hu : u = .pointer (some ⟨β b,0,none⟩)) (c : Ch) : (c.sub b u).den β = c.den β:=by
 subst hu
 cases c with
 | ptr b' o=>
  simp only [Ch.sub]
  cases hb : Nat.beq b' b with
  | true=>obtain rfl:=Nat.eq_of_beq_eq_true hb; simp [Ch.den,o8]
  | false=>rfl
 | win b' o m k=>
  simp only [Ch.sub]
  cases hb : Nat.beq b' b with
  | true=>obtain rfl:=Nat.eq_of_beq_eq_true hb; simp [Ch.den,co7]
  | false=>rfl
 | fn g cap=>
  simp only [Ch.sub,Ch.den,List.map_map]
  congr 2
  refine List.map_congr_left fun x _=>?_
  cases x with
  | inr x=>rfl
  | inl b'=>
   simp only [Function.comp,cb5]
   cases hb : Nat.beq b' b with
   | true=>obtain rfl:=Nat.eq_of_beq_eq_true hb; rfl
   | false=>rfl
 | _=>rfl
theorem Ch.sub_cells [Rd] (hu : u = .pointer (some ⟨β b,0,none⟩)) (c : Ch) : (c.sub b u).cells β = c.cells β:=by
 have h:=Ch.sub_den hu c
 cases c with
 | ag n x=>rfl
 | ptr b' o=>
  simp only [Ch.sub] at h ⊢
  cases hb : Nat.beq b' b with
  | true=>rw [hb] at h; exact congrArg (fun x=>[x]) h
  | false=>rfl
 | win b' o m k=>
  simp only [Ch.sub] at h ⊢
  cases hb : Nat.beq b' b with
  | true=>rw [hb] at h; exact congrArg (fun x=>[x]) h
  | false=>rfl
 | fn g cap=>exact congrArg (fun x=>[x]) h
 | _=>rfl
theorem Ch.sub_ok [Rd] (hu : u.oneCell' = true) {c : Ch} (h : c.Ok m) : (c.sub b u).Ok m:=by
 cases c with
 | ptr b' o=>
  simp only [Ch.sub]
  cases hb : Nat.beq b' b with
  | true=>exact an4 u o
  | false=>exact h
 | win b' o m' k=>
  simp only [Ch.sub]
  cases hb : Nat.beq b' b with
  | true=>exact cy8 u o m' k
  | false=>exact h
 | fn g cap=>
  intro b2 hb2
  obtain ⟨x,hx,he⟩:=List.mem_map.1 hb2
  cases x with
  | inr x=>cases he
  | inl b'=>
   simp only [cb5] at he
   cases hb : Nat.beq b' b with
   | true=>rw [hb] at he; cases he
   | false=>
    rw [hb] at he
    simp only [cond_false,Sum.inl.injEq] at he
    subst he
    exact h _ hx
 | _=>exact h
theorem ax7 [Rd] (hu : u = .pointer (some ⟨β b,0,none⟩)) (l : List Ch) : d8 β (l.map (Ch.sub b u)) = d8 β l:=by
 induction l with
 | nil=>rfl
 | cons c r ih=>
  simp only [d8,List.map_cons,List.flatMap_cons] at ih ⊢
  rw [Ch.sub_cells hu,ih]
theorem SV.sub_den [Rd] (hu : u = .pointer (some ⟨β b,0,none⟩)) (s : SV) : (s.sub b u).den β = s.den β:=by
 cases s with
 | one c=>exact Ch.sub_den hu c
 | agg l=>simp only [SV.sub,SV.den]; rw [ax7 hu]
 | tup l=>
  simp only [SV.sub,SV.den,List.map_map]
  congr 2
  refine List.map_congr_left fun p _=>?_
  obtain ⟨g,l⟩:=p
  simp only [Function.comp]
  cases g with
  | true=>simp only [au1]; rw [ax7 hu]
  | false=>
   cases l with
   | nil=>rfl
   | cons c r=>exact Ch.sub_den hu c
 | und=>rfl
theorem SV.sub_ok [Rd] (hu : u.oneCell' = true) {s : SV} (h : s.Ok m) : (s.sub b u).Ok m:=by
 cases s with
 | one c=>exact Ch.sub_ok (c:=c) hu h
 | agg l=>
  intro c hc
  obtain ⟨d,hd,rfl⟩:=List.mem_map.1 hc
  exact Ch.sub_ok hu (h d hd)
 | tup l=>
  intro p hp c hc
  obtain ⟨q,hq,rfl⟩:=List.mem_map.1 hp
  obtain ⟨d,hd,rfl⟩:=List.mem_map.1 hc
  exact Ch.sub_ok hu (h q hq d hd)
 | und=>trivial
theorem ce7 [Rd] : ∀ {fr : List (Nat × SV)} {d : Nat} {s : SV},L7 (cl5 b u fr) d = some s → ∃ s0,L7 fr d = some s0 ∧ s = s0.sub b u:=by
 intro fr
 induction fr with
 | nil=>intro d s h; cases h
 | cons p r ih=>
  obtain ⟨i,x⟩:=p
  intro d s h
  simp only [cl5] at h
  rw [I2] at h ⊢
  split
  ·rename_i e
   rw [if_pos e] at h
   simp only [Option.some.injEq] at h
   exact ⟨x,rfl,h.symm⟩
  rename_i e
  rw [if_neg e] at h
  exact ih h
end
theorem ay8 {m : Nat} : ∀ {l : List (Nat × SV)},(l.foldr (fun p q=>p.2.Ok m ∧ q) True) → ∀ p ∈ l,p.2.Ok m:=by
 intro l
 induction l with
 | nil=>intro _ p hp; cases hp
 | cons a r ih=>
  intro h p hp
  rcases List.mem_cons.1 hp with rfl | hp
  ·exact h.1
  exact ih h.2 p hp
theorem an7 {m : Nat} : ∀ {l : List (Nat × HE)},(l.foldr (fun p q=>p.2.Ok m ∧ q) True) → ∀ p ∈ l,p.2.Ok m:=by
 intro l
 induction l with
 | nil=>intro _ p hp; cases hp
 | cons a r ih=>
  intro h p hp
  rcases List.mem_cons.1 hp with rfl | hp
  ·exact h.1
  exact ih h.2 p hp
theorem ae4 {m : Nat} {T : TypeId} {l : List Ch} (h : l.foldr (fun c p=>c.Ok m ∧ p) True) : (HE.blk T l).Ok m:=K0 h
theorem Ch.Ok.up {c : Ch} {m : Nat} (h : c.Ok 0) : c.Ok m:=h.le (Nat.zero_le _)
def c38 : Ch → Bool
 | .ptr _ _=>false
 | .win _ _ _ _=>false
 | .fn _ _=>false
 | _=>true
theorem c28 {m : Nat} {c : Ch} (h : c38 c = true) (k : c.Ok m) : c.Ok 0:=by
 cases c <;> first | exact k | cases h
abbrev ca3 (u : Value) (T : TypeId) (cs : List Value) : Gh:=
 ⟨fun S w=>∃ b,u = .pointer (some ⟨b,0,none⟩) ∧ S b ∧ Blk w b T cs,fun ⟨b,h1,h2,h3⟩ k=>⟨b,h1,h2,h3.keep k h2⟩,fun ⟨b,h1,h2,h3⟩ k=>⟨b,h1,k b h3.lt h2,h3⟩⟩
section
variable {c : Cx} {o : Out} {G : Gh}
theorem dq4 [Rd] (b : Nat) (T : TypeId) (l : List Ch) (hb : nth o.st.hp b = some (.blk T l)) (hl : l.all c38 = true) (hc : c.Ok) (hn : ∀ u,Run c (dv4 b u o) ((ca3 u T (d8 (fun _=>0) l)).and G)) : Run c o G:=by
 refine ⟨fun β ρ w hS hw hG=>?_⟩
 rw [X9] at hb
 have hbl:=(List.getElem?_eq_some_iff.1 hb).1
 obtain ⟨u,hu⟩ : ∃ u : Value,u = .pointer (some ⟨β b,0,none⟩):=⟨_,rfl⟩
 have hu1 : u.oneCell' = true:=by subst hu; rfl
 have hlen : (aw1 b u (ae1 o.st.hp b .gone)).length = o.st.hp.length:=by rw [by4,S5]; simp
 have hget : ∀ i x,(aw1 b u (ae1 o.st.hp b .gone))[i]? = some x → (i = b ∧ x = .gone) ∨ (i ≠ b ∧ ∃ y,o.st.hp[i]? = some y ∧ x = y.sub b u):=by
  intro i x hx
  rw [by4,S5,List.getElem?_map] at hx
  by_cases e : b = i
  ·subst e
   rw [List.getElem?_set_self hbl] at hx
   simp only [Option.map_some,Option.some.injEq] at hx
   exact .inl ⟨rfl,hx.symm⟩
  rw [List.getElem?_set_ne e] at hx
  cases hy : o.st.hp[i]? with
  | none=>rw [hy] at hx; cases hx
  | some y=>
   rw [hy] at hx
   simp only [Option.map_some,Option.some.injEq] at hx
   exact .inr ⟨fun e'=>e e'.symm,y,rfl,hx.symm⟩
 have hmine : ∀ i k,m7 β (aw1 b u (ae1 o.st.hp b .gone)) i k → b ≠ i ∧ m7 β o.st.hp i k:=by
  rintro i k ⟨x,hx,hk⟩
  rcases hget i x hx with ⟨_,rfl⟩ | ⟨h1,y,h2,rfl⟩
  ·cases hk
  refine ⟨fun e=>h1 e.symm,y,h2,?_⟩
  cases y <;> exact hk
 have hmb : m7 β o.st.hp b (β b):=⟨_,hb,rfl⟩
 obtain ⟨hB,hok⟩:=hS.mem.blk b T l hb
 have hok0 : ∀ ch ∈ l,ch.Ok 0:=fun ch hch=>c28 (List.all_eq_true.1 hl ch hch) (hok ch hch)
 have h1 : Sat c.bs (dv4 b u o).st β ρ w:=by
  refine ⟨fun d s hs=>?_,⟨?_,?_,?_,?_,?_⟩,by show _ ≤ (aw1 b u (ae1 o.st.hp b .gone)).length; rw [hlen]; exact hS.agr.1,hS.agr.2⟩
  ·obtain ⟨s0,h2,rfl⟩:=ce7 hs
   obtain ⟨h3,h4⟩:=hS.fr d s0 h2
   refine ⟨h3.trans (SV.sub_den hu s0).symm,?_⟩
   show (s0.sub b u).Ok (aw1 b u (ae1 o.st.hp b .gone)).length
   rw [hlen]
   exact SV.sub_ok hu1 h4
  ·intro i T' l' hi
   rcases hget i _ hi with ⟨_,e⟩ | ⟨_,y,h2,e⟩
   ·cases e
   cases y with
   | blk T2 l2=>
    simp only [HE.sub,HE.blk.injEq] at e
    obtain ⟨rfl,rfl⟩:=e
    obtain ⟨h3,h4⟩:=hS.mem.blk i T' l2 h2
    refine ⟨by rw [ax7 hu]; exact h3,fun ch hch=>?_⟩
    obtain ⟨d,hd,rfl⟩:=List.mem_map.1 hch
    show (d.sub b u).Ok (aw1 b u (ae1 o.st.hp b .gone)).length
    rw [hlen]
    exact Ch.sub_ok hu1 (h4 d hd)
   | row _ _ _ _ _=>cases e
   | gone=>cases e
   | abs _=>cases e
   | hid _ _=>cases e
  ·intro i T' s' v' n' cs' hi
   rcases hget i _ hi with ⟨_,e⟩ | ⟨_,y,h2,e⟩
   ·cases e
   cases y with
   | blk T2 l2=>cases e
   | row _ _ _ _ _=>
    simp only [HE.sub] at e
    cases e
    exact hS.mem.row i _ _ _ _ _ h2
   | gone=>cases e
   | abs _=>cases e
   | hid _ _=>cases e
  ·intro i A hi
   rcases hget i _ hi with ⟨_,e⟩ | ⟨_,y,h2,e⟩
   ·cases e
   cases y with
   | blk T2 l2=>cases e
   | row _ _ _ _ _=>cases e
   | gone=>cases e
   | abs _=>
    simp only [HE.sub] at e
    cases e
    exact hS.mem.abs i _ h2
   | hid _ _=>cases e
  ·intro i k hk; exact hS.mem.low i k (hmine i k hk).2
  intro i j k hi hj; exact hS.mem.apart i j k (hmine i k hi).2 (hmine j k hj).2
 refine (hn u).run β ρ w h1 hw ⟨?_,G.mono hG fun k _ hk=>⟨hk.1,fun i hi=>hk.2 i (hmine i k hi).2⟩⟩
 refine ⟨β b,hu,⟨hS.up0 hc b _ hmb,fun i hi=>?_⟩,?_⟩
 ·obtain ⟨e1,e2⟩:=hmine i _ hi
  exact e1 (hS.mem.apart b i _ hmb e2)
 rw [L3 (m:=0) (β:=fun _=>0) (β':=β) (fun i hi=>absurd hi (Nat.not_lt_zero i)) hok0]
 exact hB
theorem I0 [Rd] (b : Nat) (T : TypeId) (l : List Ch) (hn : ∀ u,Run c (dv4 b u o) ((ca3 u T (d8 (fun _=>0) l)).and G)) (hb : nth o.st.hp b = some (.blk T l):=by kernel_rfl) (hl : l.all c38 = true:=by kernel_rfl) (hc : c.Ok:=by exact ⟨b9,by assumption,j5⟩) : Run c o G:=
 dq4 b T l hb hl hc hn
def bq6 (o : Out) (s : SV) (b : Nat) (T : TypeId) (l : List Ch) : Out:=match I1 o s with | ⟨cur,k,⟨fr,hp⟩,_⟩=>⟨cur,k,⟨fr,ae1 hp b (.blk T l)⟩,[]⟩
theorem cn6 [Rd] {α : Type} (f : FuncId) [ci : CallI c.P f] (b : Nat) (T : TypeId) (l : List Ch) (hc : c.Ok) (hb : nth o.st.hp b = some (.blk T l)) (pat : α → SV) (l' : α → List Ch) (pre : α → Prop) (Δ : α → Gh) (hf : J0 f o = true)
  (h : ∀ β S w,Up S w → (∀ k,S k → c.S0 k) → Keeps c.K c.w0 w → G.p S w → Blk w (β b) T (d8 β l) → ¬ S (β b) → ∃ args,(C0 o).map (SV.den β) = args ∧ Gives c.P f args w fun v w'=>Wrt (β b) w w' ∧ ∃ a,v = (pat a).den β ∧ (pat a).Ok o.st.hp.length ∧ pre a ∧ Blk w' (β b) T (d8 β (l' a)) ∧ (∀ ch ∈ l' a,ch.Ok o.st.hp.length) ∧ (Δ a).p S w')
  (hn : ∀ a,pre a → Run c (bq6 o (pat a) b T (l' a)) ((Δ a).and G)) : Run c o G:=by
 refine ⟨fun β ρ w hS hw hG=>?_⟩
 rw [X9] at hb
 have hmb : m7 β o.st.hp b (β b):=⟨_,hb,rfl⟩
 obtain ⟨all,o1,r,d,hcur,hg,hd,hnx,hr⟩:=bi9 hf hS
 obtain ⟨args,ha,hgv⟩:=h β _ w (Sof.up (hc.up.to hw) hS.mem) (fun k hk=>hk.1) hw hG (hS.mem.blk b T l hb).1 (fun hs=>hs.2 b hmb)
 rw [hcur]
 show WqR c.P c.n all (kQ c.P c.n c.Q o.k) (o1 :: r) ρ w
 refine a28 hg ?_
 unfold Stp
 rw [hr,ha]
 refine hgv.mono ?_
 rintro v w' ⟨hk,a,rfl,hok,hp,hB,hlok,hΔ⟩
 have h1:=hn a hp
 unfold bq6 at h1
 rw [hnx] at h1
 simp only [S5] at h1
 have h2 : Sat c.bs ⟨(d,pat a) :: o.st.fr,o.st.hp.set b (.blk T (l' a))⟩ β (upd ρ d ((pat a).den β)) w':=by
  have h3:=hS.wr hb hlok hk hB
  have h4:=h3.put (d:=d) (s:=pat a) rfl (by simpa using hok)
  exact h4
 have hSof : ∀ k,Sof c.S0 β o.st.hp k → Sof c.S0 β (o.st.hp.set b (.blk T (l' a))) k:=fun k hk=>⟨hk.1,fun i hi=>by rw [ap0 hb] at hi; exact hk.2 i hi⟩
 have hkS : Keeps (Sof c.S0 β o.st.hp) w w':=hk.mono fun k hk' e=>hk'.2 b (e ▸ hmb)
 have h5:=h1.run β _ w' h2 (hS.mem.grow hw hk b fun i hi=>(Classical.byContradiction hi : i = β b) ▸ hmb) ⟨(Δ a).mono hΔ fun k _ hk'=>hSof k hk',G.mono (G.keep hG hkS) fun k _ hk'=>hSof k hk'⟩
 rw [hd]
 exact h5
end
section
variable {c : Cx} {o : Out} {G : Gh}
def c94 (o : Out) : Option FuncId:=(ak2 o.st o.cur).map fun x=>x.1
theorem di6 {o : Out} {f : FuncId} (h : c94 o = some f) : J0 f o = true:=by
 unfold c94 at h
 unfold J0
 cases hx : ak2 o.st o.cur with
 | none=>rw [hx] at h; cases h
 | some x=>
  obtain ⟨g,l,d⟩:=x
  rw [hx] at h
  simp only [Option.map_some,Option.some.injEq] at h
  subst h
  simp
abbrev Pan (P : Program) (f : FuncId) (args : List Value) (w : World) (X : List PanicEntry) : Prop:=GivesE P f args w (fun _ _=>False) fun ch w'=>ch = X ∧ Ext w w'
theorem L5 {P : Program} {f : FuncId} {args : List Value} {w0 w : World} {X : List PanicEntry} (h : Pan P f args w X) (hw : Ext w0 w) : GivesE P f args w (fun _ _=>False) fun ch w'=>∀ _ : Fr,ch = X ∧ Ext w0 w':=
 h.mono (fun _ _ h=>h) fun _ _ hp _=>⟨hp.1,hw.trans hp.2⟩
theorem s_X [Rd] {f : FuncId} [ci : CallI c.P f] (hc : c.Ok) (hv : (ex c o).vc = []) (hf : J0 f (ex c o) = true)
  (h : ∀ β S w,Up S w → (∀ k,S k → c.S0 k) → Keeps c.K c.w0 w → G.p S w → ∃ args,(C0 (ex c o)).map (SV.den β) = args ∧ GivesE c.P f args w (fun _ _=>False) fun ch w'=>∀ ρ,c.Q (.panic ch) ρ w') : Run c o G:=
 ab4 hc hv (dr6 (α:=Unit) f hc (fun _=>.und) (fun _=>False) (fun _=>.nil) hf (fun β S w h1 h2 h3 h4=>let ⟨args,ha,hg⟩:=h β S w h1 h2 h3 h4; ⟨args,ha,hg.mono (fun _ _ hf=>hf.elim) fun _ _ hp=>hp⟩) fun _ hf=>hf.elim)
theorem av8 [Rd] {f : FuncId} [ci : CallI c.P f] (h : ∀ β S w,Up S w → (∀ k,S k → c.S0 k) → Keeps c.K c.w0 w → G.p S w → ∃ args,(C0 (ex c o)).map (SV.den β) = args ∧ GivesE c.P f args w (fun _ _=>False) fun ch w'=>∀ ρ,c.Q (.panic ch) ρ w') (hc : c.Ok:=by exact ⟨b9,by assumption,j5⟩) (hv : (ex c o).vc = []:=by kernel_rfl) (hf : J0 f (ex c o) = true:=by kernel_rfl) : Run c o G:=
 s_X hc hv hf h
def ck2 (st : St) : Cur → Option Value
 | .ops _ (o1 :: _)=>match o1.guard,o1.dst,o1.op with
  | none,none,.panic x=>match opd st.fr x with
   | some (.one (.val (.iface t v)))=>some (.iface t v)
   | _=>none
  | _,_,_=>none
 | _=>none
theorem dr1 [Rd] (x : Value) (hc : c.Ok) (hv : (ex c o).vc = []) (hp : ck2 (ex c o).st (ex c o).cur = some x)
  (h : ∀ S w,(∀ k,S k → c.S0 k) → Keeps c.K c.w0 w → G.p S w → ∀ ρ,c.Q (.panic [{ v:=x,recovered:=false }]) ρ w) : Run c o G:=by
 refine ab4 hc hv ⟨fun β ρ w hS hw hG=>?_⟩
 generalize ex c o = o' at *
 unfold ck2 at hp
 split at hp <;> first | (cases hp; done) | skip
 rename_i all o1 r hcur
 split at hp <;> first | (cases hp; done) | skip
 rename_i y e1 e2 e3
 split at hp <;> first | (cases hp; done) | skip
 rename_i t v hx
 simp only [Option.some.injEq] at hp
 subst hp
 rw [hcur]
 obtain ⟨dst,op,ty,pos,aft,g⟩:=o1
 simp only at e1 e2 e3
 subst e1
 subst e2
 subst e3
 exact c55 ((ah0 fun t _=>hS.fr t) _ hx).1 (ak6 (h _ w (fun k hk=>hk.1) hw hG ρ))
end
noncomputable def ax6 (a b c : Value) : Value:=(SV.agg [.ag 3 a,.ag 3 b,.ag 3 c]).den fun _=>0
noncomputable def cz1 (a b c : Value) : Value:=(SV.agg [.ag 4 a,.ag 4 b,.ag 4 c]).den fun _=>0
def TripV (S : Nat → Prop) (w : World) (v : Value) (t : T3) : Prop:=∃ a b c,v = ax6 a b c ∧ RatV S w a t.x ∧ RatV S w b t.y ∧ RatV S w c t.z
def QTripV (S : Nat → Prop) (w : World) (v : Value) (t : T3) : Prop:=∃ a b c,v = cz1 a b c ∧ QV S w a t.x ∧ QV S w b t.y ∧ QV S w c t.z
section
variable {S S' : Nat → Prop} {w w' : World} {v : Value} {t : T3}
theorem TripV.keep (h : TripV S w v t) (k : Keeps S w w') : TripV S w' v t:=let ⟨a,b,c,h1,h2,h3,h4⟩:=h; ⟨a,b,c,h1,h2.keep k,h3.keep k,h4.keep k⟩
theorem TripV.mono (h : TripV S w v t) (hs : ∀ k,k < w.heap.size → S k → S' k) : TripV S' w v t:=let ⟨a,b,c,h1,h2,h3,h4⟩:=h; ⟨a,b,c,h1,h2.mono hs,h3.mono hs,h4.mono hs⟩
theorem QTripV.keep (h : QTripV S w v t) (k : Keeps S w w') : QTripV S w' v t:=let ⟨a,b,c,h1,h2,h3,h4⟩:=h; ⟨a,b,c,h1,h2.keep k,h3.keep k,h4.keep k⟩
theorem QTripV.mono (h : QTripV S w v t) (hs : ∀ k,k < w.heap.size → S k → S' k) : QTripV S' w v t:=let ⟨a,b,c,h1,h2,h3,h4⟩:=h; ⟨a,b,c,h1,h2.mono hs,h3.mono hs,h4.mono hs⟩
theorem ax9 {l : List Ch} {n : Nat} (h : ∀ c ∈ l,c.Ok 0) (hn : aa5 l = n) : (SV.one (.ag n ((SV.agg l).den fun _=>0))).Ok 0:=
 ⟨d8 (fun _=>0) l,rfl,by rw [R4 h,hn],ag8 h⟩
theorem TripV.ok (h : TripV S w v t) : (SV.one (.ag 9 v)).Ok 0:=by
 obtain ⟨a,b,c,rfl,h2,h3,h4⟩:=h
 exact ax9 (l:=[.ag 3 a,.ag 3 b,.ag 3 c]) (K0 (m:=0) ⟨h2.ok,h3.ok,h4.ok,trivial⟩) rfl
theorem QTripV.ok (h : QTripV S w v t) : (SV.one (.ag 12 v)).Ok 0:=by
 obtain ⟨a,b,c,rfl,h2,h3,h4⟩:=h
 exact ax9 (l:=[.ag 4 a,.ag 4 b,.ag 4 c]) (K0 (m:=0) ⟨h2.ok,h3.ok,h4.ok,trivial⟩) rfl
end
abbrev j6 (v : Value) (t : T3) : Gh:=⟨fun S w=>TripV S w v t,fun h k=>h.keep k,fun h k=>h.mono k⟩
abbrev A9 (v : Value) (t : T3) : Gh:=⟨fun S w=>QTripV S w v t,fun h k=>h.keep k,fun h k=>h.mono k⟩
theorem as6 {P : Program} {f : FuncId} {args : List Value} {S : Nat → Prop} {w : World} {q : Rat} (hf : U5 q) (h : Gives P f args w fun v w'=>Ext w w' ∧ bm5 S w' v q) : Gives P f args w fun v w'=>Ext w w' ∧ (ad7 v q 0).p S w':=d57 (.inl ⟨hf,rfl,rfl⟩) h
theorem Z0 {S : Nat → Prop} {w : World} {r : Value} {q : Rat} (hS : Up S w) (h : RatV S w r q) : Gives prog 70 [r,.int .i64 0] w fun v' w'=>Ext w w' ∧ RatV S w' v' q:=by
 refine p7 (E:=env) (S0:=S) (G:=(b8 r (q))) (l:=[.one (.ag 3 r),.one (.lit .i64 0)]) func70 rfl rfl rfl ⟨h.ok,trivial,trivial⟩ rfl h ?_
 exact p9 (r) rfl (fun S w hs hw hG=>⟨hw,hG.mono fun k _ hk=>hs k hk⟩)
theorem c45 {S : Nat → Prop} {w : World} {va vb : Value} {a b : Rat} {m n : Nat} (hS : Up S w) (ha : RatV S w va a) (hb : RatV S w vb b) (hla : rl a m) (hlb : rl b n) (hmn : m + n ≤ 3344) :
  Gives prog 67 [va,vb] w fun v' w'=>Ext w w' ∧ RatV S w' v' (a * b):=by
 have hf : U5 (a * b):=Q9 (q7 hla hlb) hmn
 refine p7 (E:=env) (S0:=S) (G:=((b8 va (a)).and (b8 vb (b)))) (l:=[.one (.ag 3 va),.one (.ag 3 vb)]) func67 rfl rfl rfl ⟨ha.ok,hb.ok,trivial⟩ rfl ⟨ha,hb⟩ ?_
 refine O3 (fun x0=>pr (.ag 3 (F4 x0)) (.lit .i64 0)) (fun x0=>ad7 x0 ((a * b)) 0) (fun _ _ _ h=>X3 h) (fun β S w hS hs hw hG=>(kx (as6 hf (dy3 hS hG.1 hG.2 (m6 hla) (m6 hlb))))) ?_
 intro r
 refine E9 (fun x0=>.one (.ag 3 x0)) (fun x0=>b8 x0 ((a * b))) (fun β S w hS hs hw hG=>(kx (Z0 hS hG.1.2))) ?_
 intro x
 exact p9 (x) rfl (fun S w hs hw hG=>⟨hw,hG.1.mono fun k _ hk=>hs k hk⟩)
theorem n8 {S : Nat → Prop} {w : World} {va vb : Value} {a b : Rat} {m n : Nat} (hS : Up S w) (ha : RatV S w va a) (hb : RatV S w vb b) (hla : rl a m) (hlb : rl b n) (hmn : m + n ≤ 3344:=by omega) : Gives prog 67 [va,vb] w fun v' w'=>Ext w w' ∧ RatV S w' v' (a * b):=
 c45 hS ha hb hla hlb hmn
theorem RatV.okc {S : Nat → Prop} {w : World} {v : Value} {q : Rat} {m : Nat} (h : RatV S w v q) : (Ch.ag 3 v).Ok m:=h.ok
def av9 (l : List Rat) : Rat:=l.foldl (fun a x=>a + x) 0
theorem a79 {l : List Rat} {j : Nat} (hj : j < l.length) : av9 (l.take (j + 1)) = av9 (l.take j) + l.getD j 0:=by
 unfold av9
 rw [List.take_add_one,List.foldl_append,List.getElem?_eq_getElem hj]
 simp [List.getD_eq_getElem?_getD,List.getElem?_eq_getElem hj]
theorem cl7 {l : List Rat} {m : Nat} (h : ∀ x ∈ l,rl x m) : ∀ j,j ≤ l.length → rl (av9 (l.take j)) (j * (m + 1) + 1):=by
 intro j
 induction j with
 | zero=>
  intro _
  show rl (0 : Rat) _
  exact ⟨Nat.le_trans (M7 (k:=0) (show 0 < 1000000000 ^ 0 by decide)) (Nat.zero_le _),Nat.le_trans (M7 (k:=1) (show 1 < 1000000000 ^ 1 by decide)) (by omega)⟩
 | succ j ih=>
  intro hj
  rw [a79 (by omega)]
  have h1 : l.getD j 0 ∈ l:=by
   rw [List.getD_eq_getElem?_getD,List.getElem?_eq_getElem (by omega)]
   exact List.getElem_mem _
  exact O1 (ae0 (ih (by omega)) (h _ h1)) (by rw [Nat.add_mul]; omega)
theorem RatV.lies {S : Nat → Prop} {w : World} {v : Value} {q : Rat} (h : RatV S w v q) : U2 true 3 v:=by
 obtain ⟨m,b,rfl,_⟩:=h
 exact a44 [_,_,_]
abbrev Y5 (x : Value) (q : Rat) : Gh:=b8 x q
abbrev B6 (v : Value) (l : List Rat) : Gh:=d16 true 3 Y5 v l
theorem dx3 {S : Nat → Prop} {w : World} {v : Value} {l : List Rat} {m : Nat} (hS : Up S w) (h : SeqV true 3 Y5 S w v l) (hl : ∀ x ∈ l,rl x m) (hn : l.length * (m + 1) + 1 ≤ 3344) :
  Gives prog 73 [v] w fun v' w'=>Ext w w' ∧ RatV S w' v' (av9 l):=by
 have hmx:=h.len_le
 unfold maxLen at hmx
 refine p7 (E:=env) (S0:=S) (G:=(B6 v l)) (l:=[.one (.sl v l.length)]) func73 rfl rfl rfl ⟨h.sl,trivial⟩ rfl h ?_
 refine ah2 (ι:=Nat × Value) [(5,5),(8,18)] (fun i=>[(8,.one (.int .i64 (i.1 : Int)))]) (fun i=>[(1,.blk 53 [.ag 3 i.2])]) (fun i=>((b8 i.2 (av9 (l.take i.1))).and (B6 v l))) (fun i=>i.1 ≤ l.length) (fun i=>l.length - i.1) ((0,.agg #[.bool false,.slice none 0 0,.slice none 0 0])) ⟨b9,hS,j5⟩ (by kernel_rfl) (by kernel_rfl) (fun β=>(by kernel_rfl)) (fun β=>(by kernel_rfl)) (by kernel_rfl) (Nat.zero_le _) (fun S w hw hG=>⟨ay8 ⟨trivial,trivial⟩,an7 ⟨ae4 ⟨(s8 (S:=S) (w:=w)).okc,trivial⟩,trivial⟩⟩) (fun S w hw hG=>⟨s8,hG⟩) (fun hso i hi=>?_)
 refine R8 (p:=(i.1 : Int) < (l.length : Int)) (fun hlt=>?_) (fun hlt=>?_)
 ·have hlt' : i.1 < l.length:=by omega
  have hx0 : l[i.1]? = some (l.getD i.1 0):=by rw [List.getD_eq_getElem?_getD,List.getElem?_eq_getElem hlt']; rfl
  have hb:=cl7 hl (i.1 + 1) hlt'
  have hle : (i.1 + 1) * (m + 1) ≤ l.length * (m + 1):=Nat.mul_le_mul_right _ hlt'
  refine n7 (bz6 v l.length (i.1 : Int) 53 3 (fun u0=>atG true 3 (fun x0=>b8 x0 ((l.getD i.1 0))) u0) (by kernel_rfl) ⟨b9,hS,j5⟩ (fun β S w hM hw hG=>hG.2.el rfl rfl hx0) ?_)
  intro u_1
  refine n7 (bz1 u_1 53 3 true (fun x0=>.one (.ag 3 x0)) (fun x0=>b8 x0 ((l.getD i.1 0))) (by kernel_rfl) ⟨b9,hS,j5⟩ (fun S w hw hG=>hG.1) (fun _ _ _ h=>⟨h.ok,rfl⟩) ?_)
  intro x
  rw [a79 hlt'] at hb
  have hle2 : i.1 * (m + 1) ≤ l.length * (m + 1):=Nat.mul_le_mul_right _ (by omega)
  have hle3 : m + 1 ≤ l.length * (m + 1):=Nat.le_mul_of_pos_left _ (by omega)
  refine O3 (fun x0=>pr (.ag 3 (F4 x0)) (.lit .i64 0)) (fun x0=>ad7 x0 ((av9 (l.take i.1) + l.getD i.1 0)) 0) (fun _ _ _ h=>X3 h) (fun β S w hS hs hw hG=>(kx (as6 (Q9 hb (by omega)) (dy6 hS hG.2.2.1 hG.1 (m6 (cl7 hl i.1 (by omega))) (m6 (hl _ (List.mem_of_getElem? hx0))))))) ?_
  intro r
  refine E9 (fun x0=>.one (.ag 3 x0)) (fun x0=>b8 x0 ((av9 (l.take i.1) + l.getD i.1 0))) (fun β S w hS hs hw hG=>(kx (Z0 hS hG.1.2))) ?_
  intro r2
  refine am2 (ps:=[InR .i64 ((i.1 : Int) + 1)]) (by simp only [O0,InR,and_true]; omega) ?_
  exact Z1 ((i.1 + 1,r2)) ⟨b9,hS,j5⟩ hso (by kernel_rfl) (by kernel_rfl) (fun β=>(by kernel_rfl)) (fun β=>(by kernel_rfl)) (by kernel_rfl) (by omega) (by simp only; omega) (fun S w hw hG=>⟨ay8 ⟨trivial,trivial⟩,an7 ⟨ae4 ⟨hG.1.okc,trivial⟩,trivial⟩⟩) (fun S w hw hG=>⟨(by show RatV S w r2 _; rw [a79 hlt']; exact hG.1),hG.2.2.2.2.2⟩)
 refine ag4 ?_
 exact p9 (i.2) rfl (fun S w hs hw hG=>have ho:=hG.1; ⟨hw,by have e : l.take i.1 = l:=List.take_of_length_le (by omega); rw [e] at ho; exact ho.mono fun k _ hk=>hs k hk⟩)
theorem K4 {S : Nat → Prop} {w : World} {v : Value} {l : List Rat} {m : Nat} {q : Rat} (e : av9 l = q) (hS : Up S w) (h : SeqV true 3 Y5 S w v l) (hl : ∀ x ∈ l,rl x m) (hn : l.length * (m + 1) + 1 ≤ 3344) :
  Gives prog 73 [v] w fun v' w'=>Ext w w' ∧ RatV S w' v' q:=e ▸ dx3 hS h hl hn
theorem al9 (a b : Rat) : av9 [a,b] = a + b:=by unfold av9; simp only [List.foldl]; grind
theorem aa1 (a b : Rat) : av9 [a,-b] = a - b:=by unfold av9; simp only [List.foldl]; grind
theorem d69 (a b c : Rat) : av9 [a,b,c] = a + b + c:=by unfold av9; simp only [List.foldl]; grind
section
variable {S : Nat → Prop} {w : World} {v a b c : Value} {x y z : Rat}
theorem ae7 (h0 : RatV S w a x) (h1 : RatV S w b y) (hrow : Row S 53 3 w v 2 (a.cells.toList ++ (b.cells.toList ++ []))) : SeqV true 3 Y5 S w v [x,y]:=
 ⟨_,[a,b],rfl,fun u hu=>by rcases List.mem_cons.1 hu with rfl | hu; exact h0.lies; rw [List.mem_singleton.1 hu]; exact h1.lies,hrow,fun i p u hp hu=>by
  match i with
  | 0=>simp at hp hu; subst hp; subst hu; exact h0
  | 1=>simp at hp hu; subst hp; subst hu; exact h1
  | i + 2=>simp at hp⟩
theorem fd3 (h0 : RatV S w a x) (h1 : RatV S w b y) (h2 : RatV S w c z) (hrow : Row S 53 3 w v 3 (a.cells.toList ++ (b.cells.toList ++ (c.cells.toList ++ [])))) : SeqV true 3 Y5 S w v [x,y,z]:=
 ⟨_,[a,b,c],rfl,fun u hu=>by
  rcases List.mem_cons.1 hu with rfl | hu
  ·exact h0.lies
  ·rcases List.mem_cons.1 hu with rfl | hu
   ·exact h1.lies
   rw [List.mem_singleton.1 hu]; exact h2.lies,hrow,fun i p u hp hu=>by
  match i with
  | 0=>simp at hp hu; subst hp; subst hu; exact h0
  | 1=>simp at hp hu; subst hp; subst hu; exact h1
  | 2=>simp at hp hu; subst hp; subst hu; exact h2
  | i + 3=>simp at hp⟩
theorem ad4 {p : Rat → Prop} (h0 : p x) (h1 : p y) : ∀ u ∈ [x,y],p u:=fun u hu=>by
 rcases List.mem_cons.1 hu with rfl | hu
 ·exact h0
 rw [List.mem_singleton.1 hu]; exact h1
theorem fd7 {p : Rat → Prop} (h0 : p x) (h1 : p y) (h2 : p z) : ∀ u ∈ [x,y,z],p u:=fun u hu=>by
 rcases List.mem_cons.1 hu with rfl | hu
 ·exact h0
 exact ad4 h1 h2 u hu
end
theorem cs3 {q : Rat} : (q.num.sign = 0) = (q = 0):=by
 refine propext ⟨fun h=>?_,fun h=>by subst h; rfl⟩
 exact Rat.num_eq_zero.1 (Int.sign_eq_zero_iff_zero.1 h)
theorem E7 {S : Nat → Prop} {w : World} {v : Value} {q : Rat} (hS : Up S w) (h : RatV S w v q) : Gives prog 58 [v] w fun v' w'=>v' = .bool (tst (q = 0)) ∧ Ext w w':=by
 refine p7 (E:=env) (S0:=S) (G:=(b8 v (q))) (l:=[.one (.ag 3 v)]) func58 rfl rfl rfl ⟨h.ok,trivial⟩ rfl h ?_
 refine z7 (.one (.int .i64 q.num.sign)) rfl (fun β S w hS hs hw hG=>(kx (ck5 hG))) ?_
 exact p9 (.bool (tst (q.num.sign = 0))) rfl (fun S w hs hw hG=>⟨by rw [cs3],hw⟩)
theorem an3 {S : Nat → Prop} {w : World} {vp vq : Value} {p q : T3} {m n : Nat} (hS : Up S w) (hp : TripV S w vp p) (hq : TripV S w vq q) (hm : tl p m) (hn : tl q n) (hmn : 3 * (m + n + 1) + 1 ≤ 3344) :
  Gives prog 60 [vp,vq] w fun v' w'=>Ext w w' ∧ RatV S w' v' (p.dot q):=by
 obtain ⟨a1,b1,c1,rfl,ha1,hb1,hc1⟩:=hp
 obtain ⟨a2,b2,c2,rfl,ha2,hb2,hc2⟩:=hq
 refine p7 (E:=env) (S0:=S) (G:=((b8 a1 p.x).and ((b8 b1 p.y).and ((b8 c1 p.z).and ((b8 a2 q.x).and ((b8 b2 q.y).and (b8 c2 q.z))))))) (l:=[.agg [.ag 3 a1,.ag 3 b1,.ag 3 c1],.agg [.ag 3 a2,.ag 3 b2,.ag 3 c2]]) func60 rfl rfl rfl ⟨K0 ⟨ha1.okc,hb1.okc,hc1.okc,trivial⟩,K0 ⟨ha2.okc,hb2.okc,hc2.okc,trivial⟩,trivial⟩ rfl ⟨ha1,hb1,hc1,ha2,hb2,hc2⟩ ?_
 refine q6 17 ?_
 refine d9 4 ?_
 refine q9 (fun x0=>.one (.ag 3 x0)) (fun x0=>b8 x0 ((p.x * q.x))) (fun β η S w hS hs hw hG hd=>(kx (n8 hS hG.1 hG.2.2.2.1 hm.1 hn.1))) ?_
 refine d9 4 ?_
 refine q9 (fun x0=>.one (.ag 3 x0)) (fun x0=>b8 x0 ((p.y * q.y))) (fun β η S w hS hs hw hG hd=>(kx (n8 hS hG.2.1 hG.2.2.2.2.1 hm.2.1 hn.2.1))) ?_
 refine d9 4 ?_
 refine q9 (fun x0=>.one (.ag 3 x0)) (fun x0=>b8 x0 ((p.z * q.z))) (fun β η S w hS hs hw hG hd=>(kx (n8 hS hG.2.2.1 hG.2.2.2.2.2 hm.2.2 hn.2.2))) ?_
 refine I6 53 3 3 (fun x0=>B6 x0 [p.x * q.x,p.y * q.y,p.z * q.z]) (fun β η S w x0 w' hS hs hw hG hd hk hrow=>fd3 ((n9 hd 4 : (b8 (η 4) ((p.x * q.x))).p S w).to hk) ((n9 hd 9 : (b8 (η 9) ((p.y * q.y))).p S w).to hk) ((n9 hd 14 : (b8 (η 14) ((p.z * q.z))).p S w).to hk) (kcQ hrow)) ?_
 refine q9 (fun x0=>.one (.ag 3 x0)) (fun x0=>b8 x0 ((p.dot q))) (fun β η S w hS hs hw hG hd=>(kx (K4 (m:=m + n) (d69 _ _ _) hS (n9 hd 15 : (B6 (η 15) [p.x * q.x,p.y * q.y,p.z * q.z]).p S w) (fd7 (q7 hm.1 hn.1) (q7 hm.2.1 hn.2.1) (q7 hm.2.2 hn.2.2)) (by simp only [List.length]; omega)))) ?_
 refine o6 [true,false,false,false,false] (Gh.nil) (by exact fun _ _ h=>trivial) (fun g η=>(b8 (η 16) ((p.dot q))).and g) (fun g η=>(by kernel_rfl)) ?_
 intro η_1
 exact p9 ((η_1 16)) rfl (fun S w hs hw hG=>⟨hw,hG.1.mono fun k _ hk=>hs k hk⟩)
theorem J7 {S : Nat → Prop} {w : World} {vp vq : Value} {p q : T3} {m n : Nat} (hS : Up S w) (hp : TripV S w vp p) (hq : TripV S w vq q) (hm : tl p m) (hn : tl q n) (hmn : 2 * (m + n + 1) + 1 ≤ 3344) :
  Gives prog 63 [vp,vq] w fun v' w'=>Ext w w' ∧ TripV S w' v' (p.cross q):=by
 obtain ⟨a1,b1,c1,rfl,ha1,hb1,hc1⟩:=hp
 obtain ⟨a2,b2,c2,rfl,ha2,hb2,hc2⟩:=hq
 refine p7 (E:=env) (S0:=S) (G:=((b8 a1 p.x).and ((b8 b1 p.y).and ((b8 c1 p.z).and ((b8 a2 q.x).and ((b8 b2 q.y).and (b8 c2 q.z))))))) (l:=[.agg [.ag 3 a1,.ag 3 b1,.ag 3 c1],.agg [.ag 3 a2,.ag 3 b2,.ag 3 c2]]) func63 rfl rfl rfl ⟨K0 ⟨ha1.okc,hb1.okc,hc1.okc,trivial⟩,K0 ⟨ha2.okc,hb2.okc,hc2.okc,trivial⟩,trivial⟩ rfl ⟨ha1,hb1,hc1,ha2,hb2,hc2⟩ ?_
 refine s7 ?_
 refine q6 18 ?_
 refine d9 7 ?_
 refine q9 (fun x0=>.one (.ag 3 x0)) (fun x0=>b8 x0 ((p.y * q.z))) (fun β η S w hS hs hw hG hd=>(kx (n8 hS hG.2.1 hG.2.2.2.2.2 hm.2.1 hn.2.2))) ?_
 refine d9 6 ?_
 refine q9 (fun x0=>.one (.ag 3 x0)) (fun x0=>b8 x0 ((p.z * q.y))) (fun β η S w hS hs hw hG hd=>(kx (n8 hS hG.2.2.1 hG.2.2.2.2.1 hm.2.2 hn.2.1))) ?_
 refine q9 (fun x0=>.one (.ag 3 x0)) (fun x0=>b8 x0 ((-(p.z * q.y)))) (fun β η S w hS hs hw hG hd=>(kx (U0 (n9 hd 14 : (b8 (η 14) ((p.z * q.y))).p S w)))) ?_
 refine I6 53 3 2 (fun x0=>B6 x0 [p.y * q.z,-(p.z * q.y)]) (fun β η S w x0 w' hS hs hw hG hd hk hrow=>ae7 ((n9 hd 7 : (b8 (η 7) ((p.y * q.z))).p S w).to hk) ((n9 hd 15 : (b8 (η 15) ((-(p.z * q.y)))).p S w).to hk) (kcQ hrow)) ?_
 refine q9 (fun x0=>.one (.ag 3 x0)) (fun x0=>b8 x0 ((p.y * q.z - p.z * q.y))) (fun β η S w hS hs hw hG hd=>(kx (K4 (m:=m + n) (aa1 _ _) hS (n9 hd 16 : (B6 (η 16) [p.y * q.z,-(p.z * q.y)]).p S w) (ad4 (q7 hm.2.1 hn.2.2) (L4 (q7 hm.2.2 hn.2.1))) (by simp only [List.length]; omega)))) ?_
 refine o6 [true,false,false,false,false] ((b8 a1 p.x).and ((b8 b1 p.y).and ((b8 c1 p.z).and ((b8 a2 q.x).and ((b8 b2 q.y).and ((b8 c2 q.z).and (Gh.nil))))))) (by exact fun _ _ h=>⟨h.1,h.2.1,h.2.2.1,h.2.2.2.1,h.2.2.2.2.1,h.2.2.2.2.2,trivial⟩) (fun g η=>(b8 (η 17) ((p.y * q.z - p.z * q.y))).and g) (fun g η=>(by kernel_rfl)) ?_
 intro η_1
 refine q6 18 ?_
 refine d9 7 ?_
 refine q9 (fun x0=>.one (.ag 3 x0)) (fun x0=>b8 x0 ((p.z * q.x))) (fun β η S w hS hs hw hG hd=>(kx (n8 hS hG.2.2.2.1 hG.2.2.2.2.1 hm.2.2 hn.1))) ?_
 refine d9 6 ?_
 refine q9 (fun x0=>.one (.ag 3 x0)) (fun x0=>b8 x0 ((p.x * q.z))) (fun β η S w hS hs hw hG hd=>(kx (n8 hS hG.2.1 hG.2.2.2.2.2.2.1 hm.1 hn.2.2))) ?_
 refine q9 (fun x0=>.one (.ag 3 x0)) (fun x0=>b8 x0 ((-(p.x * q.z)))) (fun β η S w hS hs hw hG hd=>(kx (U0 (n9 hd 14 : (b8 (η 14) ((p.x * q.z))).p S w)))) ?_
 refine I6 53 3 2 (fun x0=>B6 x0 [p.z * q.x,-(p.x * q.z)]) (fun β η S w x0 w' hS hs hw hG hd hk hrow=>ae7 ((n9 hd 7 : (b8 (η 7) ((p.z * q.x))).p S w).to hk) ((n9 hd 15 : (b8 (η 15) ((-(p.x * q.z)))).p S w).to hk) (kcQ hrow)) ?_
 refine q9 (fun x0=>.one (.ag 3 x0)) (fun x0=>b8 x0 ((p.z * q.x - p.x * q.z))) (fun β η S w hS hs hw hG hd=>(kx (K4 (m:=m + n) (aa1 _ _) hS (n9 hd 16 : (B6 (η 16) [p.z * q.x,-(p.x * q.z)]).p S w) (ad4 (q7 hm.2.2 hn.1) (L4 (q7 hm.1 hn.2.2))) (by simp only [List.length]; omega)))) ?_
 refine o6 [true,false,false,false,false] ((b8 (η_1 17) ((p.y * q.z - p.z * q.y))).and ((b8 a1 p.x).and ((b8 b1 p.y).and ((b8 a2 q.x).and ((b8 b2 q.y).and (Gh.nil)))))) (by exact fun _ _ h=>⟨h.1,h.2.1,h.2.2.1,h.2.2.2.2.1,h.2.2.2.2.2.1,trivial⟩) (fun g η=>(b8 (η 17) ((p.z * q.x - p.x * q.z))).and g) (fun g η=>(by kernel_rfl)) ?_
 intro η_2
 refine q6 18 ?_
 refine d9 7 ?_
 refine q9 (fun x0=>.one (.ag 3 x0)) (fun x0=>b8 x0 ((p.x * q.y))) (fun β η S w hS hs hw hG hd=>(kx (n8 hS hG.2.2.1 hG.2.2.2.2.2.1 hm.1 hn.2.1))) ?_
 refine d9 6 ?_
 refine q9 (fun x0=>.one (.ag 3 x0)) (fun x0=>b8 x0 ((p.y * q.x))) (fun β η S w hS hs hw hG hd=>(kx (n8 hS hG.2.2.2.1 hG.2.2.2.2.1 hm.2.1 hn.1))) ?_
 refine q9 (fun x0=>.one (.ag 3 x0)) (fun x0=>b8 x0 ((-(p.y * q.x)))) (fun β η S w hS hs hw hG hd=>(kx (U0 (n9 hd 14 : (b8 (η 14) ((p.y * q.x))).p S w)))) ?_
 refine I6 53 3 2 (fun x0=>B6 x0 [p.x * q.y,-(p.y * q.x)]) (fun β η S w x0 w' hS hs hw hG hd hk hrow=>ae7 ((n9 hd 7 : (b8 (η 7) ((p.x * q.y))).p S w).to hk) ((n9 hd 15 : (b8 (η 15) ((-(p.y * q.x)))).p S w).to hk) (kcQ hrow)) ?_
 refine q9 (fun x0=>.one (.ag 3 x0)) (fun x0=>b8 x0 ((p.x * q.y - p.y * q.x))) (fun β η S w hS hs hw hG hd=>(kx (K4 (m:=m + n) (aa1 _ _) hS (n9 hd 16 : (B6 (η 16) [p.x * q.y,-(p.y * q.x)]).p S w) (ad4 (q7 hm.1 hn.2.1) (L4 (q7 hm.2.1 hn.1))) (by simp only [List.length]; omega)))) ?_
 refine o6 [true,false,false,false,false] ((b8 (η_2 17) ((p.z * q.x - p.x * q.z))).and ((b8 (η_1 17) ((p.y * q.z - p.z * q.y))).and (Gh.nil))) (by exact fun _ _ h=>⟨h.1,h.2.1,trivial⟩) (fun g η=>(b8 (η 17) ((p.x * q.y - p.y * q.x))).and g) (fun g η=>(by kernel_rfl)) ?_
 intro η_3
 exact p9 (ax6 (η_1 17) (η_2 17) (η_3 17)) rfl (fun S w hs hw hG=>⟨hw,_,_,_,rfl,hG.2.2.1.mono fun k _ hk=>hs k hk,hG.2.1.mono fun k _ hk=>hs k hk,hG.1.mono fun k _ hk=>hs k hk⟩)
theorem P8 {S : Nat → Prop} {w : World} {v : Value} {p : T3} (hS : Up S w) (h : TripV S w v p) : Gives prog 64 [v] w fun v' w'=>v' = .bool (tst p.None) ∧ Ext w w':=by
 obtain ⟨a,b,c,rfl,ha,hb,hc⟩:=h
 refine p7 (E:=env) (S0:=S) (G:=((b8 a p.x).and ((b8 b p.y).and (b8 c p.z)))) (l:=[.agg [.ag 3 a,.ag 3 b,.ag 3 c]]) func64 rfl rfl rfl ⟨K0 ⟨ha.okc,hb.okc,hc.okc,trivial⟩,trivial⟩ rfl ⟨ha,hb,hc⟩ ?_
 refine z7 (.one (.tp (p.x = 0))) rfl (fun β S w hS hs hw hG=>(kx (E7 hS hG.1))) ?_
 refine S3 (p:=p.x = 0) 6 (fun hx=>?_) (fun hx=>?_)
 ·refine z7 (.one (.tp (p.y = 0))) rfl (fun β S w hS hs hw hG=>(kx (E7 hS hG.2.1))) ?_
  refine S3 (p:=p.y = 0) 11 (fun hy=>?_) (fun hy=>?_)
  ·refine z7 (.one (.tp (p.z = 0))) rfl (fun β S w hS hs hw hG=>(kx (E7 hS hG.2.2))) ?_
   exact p9 (.bool (tst (p.z = 0))) rfl (fun S w hs hw hG=>⟨by rw [show p.None = (p.z = 0) from propext ⟨fun h=>h.2.2,fun h=>⟨hx,hy,h⟩⟩],hw⟩)
  exact p9 (.bool false) rfl (fun S w hs hw hG=>⟨by rw [j8 fun h : p.None=>hy h.2.1],hw⟩)
 exact p9 (.bool false) rfl (fun S w hs hw hG=>⟨by rw [j8 fun h : p.None=>hx h.1],hw⟩)
theorem W9 {S : Nat → Prop} {w : World} {vp vq : Value} {p q : T3} {m n : Nat} (hS : Up S w) (hp : TripV S w vp p) (hq : TripV S w vq q) (hm : tl p m) (hn : tl q n) (hmn : 2 * (m + n + 1) + 1 ≤ 3344) :
  Gives prog 65 [vp,vq] w fun v' w'=>v' = .bool (tst (T3.Same p q)) ∧ Ext w w':=by
 refine p7 (E:=env) (S0:=S) (G:=((j6 vp (p)).and (j6 vq (q)))) (l:=[.one (.ag 9 vp),.one (.ag 9 vq)]) func65 rfl rfl rfl ⟨hp.ok,hq.ok,trivial⟩ rfl ⟨hp,hq⟩ ?_
 refine E9 (fun x0=>.one (.ag 9 x0)) (fun x0=>j6 x0 ((p.cross q))) (fun β S w hS hs hw hG=>(kx (J7 hS hG.1 hG.2 hm hn hmn))) ?_
 intro x
 refine z7 (.one (.tp (T3.Same p q))) rfl (fun β S w hS hs hw hG=>(kx (P8 hS hG.1))) ?_
 exact p9 (.bool (tst (T3.Same p q))) rfl (fun S w hs hw hG=>⟨rfl,hw⟩)
theorem a56 {S : Nat → Prop} {w : World} {vp vq vr : Value} {p q r : T3} {m n k : Nat} (hS : Up S w) (hp : TripV S w vp p) (hq : TripV S w vq q) (hr : TripV S w vr r) (hm : tl p m) (hn : tl q n) (hk : tl r k) (hmn : 3 * (2 * (m + n) + 1 + k + 1) + 1 ≤ 3344) :
  Gives prog 86 [vp,vq,vr] w fun v' w'=>v' = .bool (tst (T3.Flat p q r)) ∧ Ext w w':=by
 have hc:=r9 hm hn
 refine p7 (E:=env) (S0:=S) (G:=((j6 vp (p)).and ((j6 vq (q)).and (j6 vr (r))))) (l:=[.one (.ag 9 vp),.one (.ag 9 vq),.one (.ag 9 vr)]) func86 rfl rfl rfl ⟨hp.ok,hq.ok,hr.ok,trivial⟩ rfl ⟨hp,hq,hr⟩ ?_
 refine q6 6 ?_
 refine d9 2 ?_
 refine q9 (fun x0=>.one (.ag 9 x0)) (fun x0=>j6 x0 ((p.cross q))) (fun β η S w hS hs hw hG hd=>(kx (J7 hS hG.1 hG.2.1 hm hn (by omega)))) ?_
 refine d9 1 ?_
 refine q9 (fun x0=>.one (.ag 3 x0)) (fun x0=>b8 x0 (((p.cross q).dot r))) (fun β η S w hS hs hw hG hd=>(kx (an3 hS (n9 hd 2 : (j6 (η 2) ((p.cross q))).p S w) hG.2.2 hc hk (by omega)))) ?_
 refine h_K (.one (.tp (T3.Flat p q r))) (fun η=>(by kernel_rfl)) (U1 rfl) rfl (fun β η S w hS hs hw hG hd=>(kx (E7 hS (n9 hd 4 : (b8 (η 4) (((p.cross q).dot r))).p S w)))) ?_
 refine o6 [false,false,false] (Gh.nil) (by exact fun _ _ h=>trivial) (fun g η=>g) (fun g η=>(by kernel_rfl)) ?_
 intro η_1
 exact p9 (.bool (tst (T3.Flat p q r))) rfl (fun S w hs hw hG=>⟨rfl,hw⟩)
def J2 (e : Int) : List PanicEntry:=[{ v:=.iface 162 (.agg #[.int .i64 e]),recovered:=false }]
theorem X4 {w : World} {e : Int} : Pan prog 61 [.int .i64 e] w (J2 e):=by
 have hS : Up All w:=Up.all
 refine J8 (E:=env) (S0:=All) (G:=Gh.nil) (l:=[.one (.int .i64 (e))]) func61 rfl rfl rfl ⟨trivial,trivial⟩ rfl trivial ?_
 exact dr1 (.iface 162 (.agg #[.int .i64 e])) ⟨b9,hS,j5⟩ (by kernel_rfl) (by kernel_rfl) (fun S w hs hw hG ρ=>⟨rfl,hw⟩)
open Classical in
noncomputable def R6 (p : Rat → Prop) : List Rat → Nat → Int
 | [],_=>-1
 | x :: r,k=>if p x then (k : Int) else R6 p r (k + 1)
theorem bo2 {p : Rat → Prop} {l : List Rat} {j : Nat} (hj : j < l.length) : (p (l.getD j 0) → R6 p (l.drop j) j = (j : Int)) ∧ (¬ p (l.getD j 0) → R6 p (l.drop j) j = R6 p (l.drop (j + 1)) (j + 1)):=by
 have e : l.drop j = l.getD j 0 :: l.drop (j + 1):=by
  rw [List.drop_eq_getElem_cons hj,List.getD_eq_getElem?_getD,List.getElem?_eq_getElem hj]
  rfl
 rw [e]
 exact ⟨fun h=>by unfold R6; rw [if_pos h],fun h=>by conv=>lhs; unfold R6; rw [if_neg h]⟩
theorem al3 {p : Rat → Prop} : ∀ {l : List Rat} {k : Nat},(∃ x ∈ l,p x) ↔ 0 ≤ R6 p l k:=by
 intro l
 induction l with
 | nil=>intro k; unfold R6; simp
 | cons x r ih=>
  intro k
  unfold R6
  by_cases h : p x
  ·rw [if_pos h]; exact ⟨fun _=>by omega,fun _=>⟨x,List.mem_cons_self ..,h⟩⟩
  rw [if_neg h,← ih]
  constructor
  ·rintro ⟨y,hy,hp⟩
   rcases List.mem_cons.1 hy with rfl | hy
   ·exact absurd hp h
   exact ⟨y,hy,hp⟩
  rintro ⟨y,hy,hp⟩; exact ⟨y,List.mem_cons_of_mem _ hy,hp⟩
abbrev dr9 (P : Program) (f : FuncId) (w : World) (l : List Rat) (p : Rat → Prop) : Prop:=∀ S' w' x q,q ∈ l → Up S' w' → Ext w w' → RatV S' w' x q → Gives P f [x] w' fun v w''=>v = .bool (tst (p q)) ∧ Ext w' w''
theorem b03 {S : Nat → Prop} {w : World} {v : Value} {l : List Rat} {p : Rat → Prop} (f : FuncId) [ci : CallI prog f] (hS : Up S w) (h : SeqV true 3 Y5 S w v l) (hf : dr9 prog f w l p) :
  Gives prog 190 [v,.func (.func f) #[] #[]] w fun v' w'=>v' = .int .i64 (R6 p l 0) ∧ Ext w w':=by
 have hmx:=h.len_le
 unfold maxLen at hmx
 refine p7 (E:=env) (S0:=S) (G:=(B6 v (l))) (l:=[.one (.sl v (l).length),.one (.fn f [])]) func190 rfl rfl rfl ⟨h.sl,(fun _ h=>by cases h),trivial⟩ rfl h ?_
 refine ah2 (ι:=Nat) [(4,5),(8,18)] (fun j=>[(8,.one (.int .i64 (j : Int)))]) (fun _=>[]) (fun j=>(B6 v (l))) (fun j=>j ≤ l.length ∧ R6 p (l.drop j) j = R6 p l 0) (fun j=>l.length - j) (0) ⟨b9,hS,j5⟩ (by kernel_rfl) (by kernel_rfl) (fun β=>(by kernel_rfl)) (fun β=>(by kernel_rfl)) (by kernel_rfl) (⟨Nat.zero_le _,rfl⟩) (fun S w hw hG=>⟨B9 rfl,fun p hp=>by cases hp⟩) (fun S w hw hG=>hG) (fun hso j hj=>?_)
 refine R8 (p:=(j : Int) < (l.length : Int)) (fun hlt=>?_) (fun hlt=>?_)
 ·have hlt' : j < l.length:=by omega
  have hx0 : l[j]? = some (l.getD j 0):=by rw [List.getD_eq_getElem?_getD,List.getElem?_eq_getElem hlt']; rfl
  obtain ⟨d1,d2⟩:=bo2 (p:=p) hlt'
  refine n7 (bz6 v l.length (j : Int) 53 3 (fun u0=>atG true 3 (fun x0=>b8 x0 ((l.getD j 0))) u0) (by kernel_rfl) ⟨b9,hS,j5⟩ (fun β S w hM hw hG=>hG.el rfl rfl hx0) ?_)
  intro u_1
  refine n7 (bz1 u_1 53 3 true (fun x0=>.one (.ag 3 x0)) (fun x0=>b8 x0 ((l.getD j 0))) (by kernel_rfl) ⟨b9,hS,j5⟩ (fun S w hw hG=>hG.1) (fun _ _ _ h=>⟨h.ok,rfl⟩) ?_)
  intro x
  refine s_K (.one (.tp (p (l.getD j 0)))) ⟨b9,hS,j5⟩ (by kernel_rfl) (di6 (by kernel_rfl)) (U1 rfl) rfl (fun β S w hS hs hw hG=>(kx (hf _ _ _ _ (List.mem_of_getElem? hx0) hS hw hG.1))) ?_
  refine R8 (p:=p (l.getD j 0)) (fun hp=>?_) (fun hp=>?_)
  ·refine ag4 ?_
   exact p9 (.int .i64 (j : Int)) rfl (fun S w hs hw hG=>⟨by rw [← hj.2,d1 hp],hw⟩)
  refine am2 (ps:=[InR .i64 ((j : Int) + 1)]) (by simp only [O0,InR,and_true]; omega) ?_
  exact Z1 (j + 1) ⟨b9,hS,j5⟩ hso (by kernel_rfl) (by kernel_rfl) (fun β=>(by kernel_rfl)) (fun β=>(by kernel_rfl)) (by kernel_rfl) (⟨by omega,by rw [← d2 hp]; exact hj.2⟩) (by omega) (fun S w hw hG=>⟨B9 rfl,fun p hp=>by cases hp⟩) (fun S w hw hG=>hG.2.2)
 refine ag4 ?_
 exact p9 (.int .i64 (-1)) rfl (fun S w hs hw hG=>⟨by rw [← hj.2,List.drop_of_length_le (by omega)]; rfl,hw⟩)
theorem ad1 {S : Nat → Prop} {w : World} {v : Value} {l : List Rat} {p : Rat → Prop} (f : FuncId) [ci : CallI prog f] (hS : Up S w) (h : SeqV true 3 Y5 S w v l) (hf : dr9 prog f w l p) :
  Gives prog 157 [v,.func (.func f) #[] #[]] w fun v' w'=>v' = .bool (tst (∃ x ∈ l,p x)) ∧ Ext w w':=by
 refine p7 (E:=env) (S0:=S) (G:=(B6 v (l))) (l:=[.one (.sl v (l).length),.one (.fn f [])]) func157 rfl rfl rfl ⟨h.sl,(fun _ h=>by cases h),trivial⟩ rfl h ?_
 refine z7 (.one (.int .i64 (R6 p l 0))) rfl (fun β S w hS hs hw hG=>(kx (b03 f hS hG (fun S' w' x q h0 h1 h2 h3=>hf S' w' x q h0 h1 (hw.trans h2) h3)))) ?_
 exact p9 (.bool (tst (0 ≤ R6 p l 0))) rfl (fun S w hs hw hG=>⟨by rw [al3 (k:=0)],hw⟩)
def aa6 (q : Rat) : Prop:=40 < Lib.nDigits q.num.natAbs ∨ 40 < Lib.nDigits q.den
theorem bv7 (z : Int) (h : 0 ≤ z) : (Lib.itoa z).length = Lib.nDigits z.natAbs:=by
 obtain ⟨n,rfl⟩ : ∃ n : Nat,z = (n : Int):=⟨z.toNat,by omega⟩
 rw [bg3,Lib.decDigits_length]
 rfl
theorem di5 (z : Int) (h : z < 0) : (Lib.itoa (-z)).length = Lib.nDigits z.natAbs:=by
 rw [bv7 (-z) (by omega),Int.natAbs_neg]
theorem dw7 {S : Nat → Prop} {w : World} {v : Value} {q : Rat} (hS : Up S w) (h : RatV S w v q) : Gives prog 191 [v] w fun v' w'=>Ext w w' ∧ IntV S 227 .u32 w' v' q.num:=by
 obtain ⟨m,b,rfl,hm,hb⟩:=h
 have hi : IntV S 227 .u32 w (.agg #[.bool (tst (q.num < 0)),m]) q.num:=⟨m,rfl,hm⟩
 refine p7 (E:=env) (S0:=S) (G:=(dh4 (.agg #[.bool (tst (q.num < 0)),m]) q.num)) (l:=[.agg [.tp (q.num < 0),.val m,.val b]]) func191 rfl rfl rfl ⟨K0 ⟨trivial,hm.one,hb.one,trivial⟩,trivial⟩ rfl hi ?_
 exact p9 (.agg #[.bool (tst (q.num < 0)),m]) rfl (fun S w hs hw hG=>⟨hw,hG.mono fun k _ hk=>hs k hk⟩)
theorem bp8 {S : Nat → Prop} {w : World} {v : Value} {q : Rat} (ht : Tab w) (hS : Up S w) (h : RatV S w v q) (hl : rl q 1000000) : Gives prog 159 [v] w fun v' w'=>v' = .bool (tst (aa6 q)) ∧ Ext w w':=by
 have h1 : zl q.num ≤ 1000000:=hl.1
 have h2 : zl (q.den : Int) ≤ 1000000:=hl.2
 have ld:=bv7 (q.den : Int) (by omega)
 rw [Int.natAbs_natCast] at ld
 refine p7 (E:=env) (S0:=S) (G:=(b8 v (q))) (l:=[.one (.ag 3 v)]) func159 rfl rfl rfl ⟨h.ok,trivial⟩ rfl h ?_
 refine E9 (fun x0=>.one (.ag 2 x0)) (fun x0=>dh4 x0 (q.num)) (fun β S w hS hs hw hG=>(kx (dw7 hS hG))) ?_
 intro n
 refine z7 (.one (.int .i64 q.num.sign)) rfl (fun β S w hS hs hw hG=>(kx (cf5 hG.1))) ?_
 refine R8 (p:=q.num.sign < 0) (fun hs=>?_) (fun hs=>?_)
 ·have hneg : q.num < 0:=Int.sign_neg_iff.1 hs
  have ln:=di5 q.num hneg
  refine E9 (fun x0=>.one (.ag 2 x0)) (fun x0=>dh4 x0 ((-q.num))) (fun β S w hS hs hw hG=>(kx (c22 hG.1))) ?_
  intro m
  refine z7 (.one (.str (Lib.itoa (-q.num)))) rfl (fun β S w hS hs hw hG=>(kx (bj7 (ht.to hw) hG.1 (by rw [d40]; omega)))) ?_
  refine S3 (p:=(40 : Int) < ((Lib.itoa (-q.num)).length : Int)) 15 (fun h4=>?_) (fun h4=>?_)
  ·exact p9 (.bool true) rfl (fun S w hs hw hG=>⟨by rw [l9 (show aa6 q from .inl (by omega))],hw⟩)
  refine E9 (fun x0=>.one (.ag 2 x0)) (fun x0=>dh4 x0 ((q.den : Int))) (fun β S w hS hs hw hG=>(kx (a71 hS hG.2.2))) ?_
  intro d
  refine z7 (.one (.str (Lib.itoa (q.den : Int)))) rfl (fun β S w hS hs hw hG=>(kx (bj7 (ht.to hw) hG.1 (by omega)))) ?_
  exact p9 (.bool (tst ((40 : Int) < ((Lib.itoa (q.den : Int)).length : Int)))) rfl (fun S w hs hw hG=>have h:=hG.2.2.2; ⟨by rw [show aa6 q = ((40 : Int) < ((Lib.itoa (q.den : Int)).length : Int)) from propext ⟨fun h=>by rcases h with h | h <;> omega,fun h=>.inr (by omega)⟩],hw⟩)
 have hneg : ¬ q.num < 0:=fun h=>hs (Int.sign_neg_iff.2 h)
 have ln:=bv7 q.num (by omega)
 refine z7 (.one (.str (Lib.itoa q.num))) rfl (fun β S w hS hs hw hG=>(kx (bj7 (ht.to hw) hG.1 (by omega)))) ?_
 refine S3 (p:=(40 : Int) < ((Lib.itoa q.num).length : Int)) 15 (fun h4=>?_) (fun h4=>?_)
 ·exact p9 (.bool true) rfl (fun S w hs hw hG=>⟨by rw [l9 (show aa6 q from .inl (by omega))],hw⟩)
 refine E9 (fun x0=>.one (.ag 2 x0)) (fun x0=>dh4 x0 ((q.den : Int))) (fun β S w hS hs hw hG=>(kx (a71 hS hG.2))) ?_
 intro d
 refine z7 (.one (.str (Lib.itoa (q.den : Int)))) rfl (fun β S w hS hs hw hG=>(kx (bj7 (ht.to hw) hG.1 (by omega)))) ?_
 exact p9 (.bool (tst ((40 : Int) < ((Lib.itoa (q.den : Int)).length : Int)))) rfl (fun S w hs hw hG=>have h:=hG.2.2; ⟨by rw [show aa6 q = ((40 : Int) < ((Lib.itoa (q.den : Int)).length : Int)) from propext ⟨fun h=>by rcases h with h | h <;> omega,fun h=>.inr (by omega)⟩],hw⟩)
theorem bs0 {S : Nat → Prop} {w : World} {v : Value} {q : Rat} (hS : Up S w) (h : RatV S w v q) : Gives prog 158 [v] w fun v' w'=>v' = .bool (tst (¬ q = 0)) ∧ Ext w w':=by
 refine p7 (E:=env) (S0:=S) (G:=(b8 v (q))) (l:=[.one (.ag 3 v)]) func158 rfl rfl rfl ⟨h.ok,trivial⟩ rfl h ?_
 refine z7 (.one (.tp (q = 0))) rfl (fun β S w hS hs hw hG=>(kx (E7 hS hG))) ?_
 exact p9 (.bool (tst (¬ q = 0))) rfl (fun S w hs hw hG=>⟨rfl,hw⟩)
theorem dq8 {S : Nat → Prop} {w : World} {v : Value} {q : Rat} (hS : Up S w) (h : RatV S w v q) : Gives prog 192 [v] w fun v' w'=>v' = .bool (tst (¬ q = 0)) ∧ Ext w w':=by
 refine p7 (E:=env) (S0:=S) (G:=(b8 v (q))) (l:=[.one (.ag 3 v)]) func192 rfl rfl rfl ⟨h.ok,trivial⟩ rfl h ?_
 refine z7 (.one (.tp (q = 0))) rfl (fun β S w hS hs hw hG=>(kx (E7 hS hG))) ?_
 exact p9 (.bool (tst (¬ q = 0))) rfl (fun S w hs hw hG=>⟨rfl,hw⟩)
def M9 (l : List Rat) : Prop:=¬ ∃ x ∈ l,¬ x = 0
def ak8 (l : List Rat) : Prop:=∃ x ∈ l,aa6 x
theorem ax5 {S : Nat → Prop} {w : World} {v : Value} {l : List Rat} (ht : Tab w) (hS : Up S w) (h : SeqV true 3 Y5 S w v l) (hl : ∀ x ∈ l,rl x 1000000) (h1 : ¬ M9 l) (h2 : ¬ ak8 l) : Gives prog 117 [v] w fun v' w'=>v' = .tuple #[] ∧ Ext w w':=by
 refine p7 (E:=env) (S0:=S) (G:=(B6 v (l))) (l:=[.one (.sl v (l).length)]) func117 rfl rfl rfl ⟨h.sl,trivial⟩ rfl h ?_
 refine z7 (.one (.tp (∃ x ∈ l,¬ x = 0))) rfl (fun β S w hS hs hw hG=>(kx (ad1 158 hS hG fun _ _ _ _ _ h1 _ h3=>bs0 h1 h3))) ?_
 refine ai1 (p:=¬ (∃ x ∈ l,¬ x = 0)) (h1) ?_
 refine z7 (.one (.tp (∃ x ∈ l,aa6 x))) rfl (fun β S w hS hs hw hG=>(kx (ad1 159 hS hG fun _ _ _ _ h0 h1 h2 h3=>bp8 ((ht.to hw).to h2) h1 h3 (hl _ h0)))) ?_
 refine ai1 (p:=∃ x ∈ l,aa6 x) (h2) ?_
 exact p9 (.tuple #[]) rfl (fun S w hs hw hG=>⟨rfl,hw⟩)
theorem bj1 {S : Nat → Prop} {w : World} {v : Value} {l : List Rat} (hS : Up S w) (h : SeqV true 3 Y5 S w v l) (h1 : M9 l) : Pan prog 117 [v] w (J2 60):=by
 refine J8 (E:=env) (S0:=S) (G:=(B6 v (l))) (l:=[.one (.sl v (l).length)]) func117 rfl rfl rfl ⟨h.sl,trivial⟩ rfl h ?_
 refine z7 (.one (.tp (∃ x ∈ l,¬ x = 0))) rfl (fun β S w hS hs hw hG=>(kx (ad1 158 hS hG fun _ _ _ _ _ h1 _ h3=>bs0 h1 h3))) ?_
 refine ad3 (p:=¬ (∃ x ∈ l,¬ x = 0)) (h1) ?_
 exact av8 (fun β S w hS hs hw hG=>(kx (L5 (X4 (e:=60)) hw)))
theorem bf4 {S : Nat → Prop} {w : World} {v : Value} {l : List Rat} (ht : Tab w) (hS : Up S w) (h : SeqV true 3 Y5 S w v l) (hl : ∀ x ∈ l,rl x 1000000) (h1 : ¬ M9 l) (h2 : ak8 l) : Pan prog 117 [v] w (J2 11):=by
 refine J8 (E:=env) (S0:=S) (G:=(B6 v (l))) (l:=[.one (.sl v (l).length)]) func117 rfl rfl rfl ⟨h.sl,trivial⟩ rfl h ?_
 refine z7 (.one (.tp (∃ x ∈ l,¬ x = 0))) rfl (fun β S w hS hs hw hG=>(kx (ad1 158 hS hG fun _ _ _ _ _ h1 _ h3=>bs0 h1 h3))) ?_
 refine ai1 (p:=¬ (∃ x ∈ l,¬ x = 0)) (h1) ?_
 refine z7 (.one (.tp (∃ x ∈ l,aa6 x))) rfl (fun β S w hS hs hw hG=>(kx (ad1 159 hS hG fun _ _ _ _ h0 h1 h2 h3=>bp8 ((ht.to hw).to h2) h1 h3 (hl _ h0)))) ?_
 refine ad3 (p:=∃ x ∈ l,aa6 x) (h2) ?_
 exact av8 (fun β S w hS hs hw hG=>(kx (L5 (X4 (e:=11)) hw)))
abbrev Cx.fnK (P : Program) (fn : Func) (E : Env) (w0 : World) (S0 K : Nat → Prop) (Ψ : Value → World → Prop) : Cx:=⟨P,fn.ntmps,E,w0,S0,K,ax4 P fn Ψ,0,fun _=>0⟩
def SVsOkM (m : Nat) : List SV → Prop
 | []=>True
 | s :: r=>s.Ok m ∧ SVsOkM m r
theorem SVsOkM.all {m : Nat} : ∀ {l : List SV},SVsOkM m l → ∀ s ∈ l,s.Ok m:=by
 intro l
 induction l with
 | nil=>intro _ s hs; cases hs
 | cons x r ih=>
  intro h s hs
  rcases List.mem_cons.1 hs with rfl | hs
  ·exact h.1
  exact ih h.2 s hs
theorem bi8 {base : Bs} {w : World} {l : List SV} {hp : List HE} {β : Nat → Nat} (hok : SVsOkM hp.length l) (hM : Mem base hp β w) (hb : base.m = 0) : Sat base ⟨bj9 0 l,hp⟩ β (fun i=>(l.map (SV.den β)).getD i undef) w:=
 ⟨fun d s hs=>by have h:=br4 (β:=β) (m:=hp.length) (i:=0) (d:=d) hok.all s hs; simpa using h,hM,by rw [hb]; exact Nat.zero_le _,fun i hi=>by omega⟩
theorem b51 {P : Program} {E : Env} {S0 K : Nat → Prop} {f : FuncId} {fn : Func} {code : Code} {l : List SV} {hp : List HE} {β : Nat → Nat} {args : List Value} {w : World} {Ψ : Value → World → Prop} {G : Gh} (hf : P.funcs[f]? = some fn) (hb : fn.body = some code) (hok : bd5 fn code = true)
  (hn : Nat.ble args.length fn.ntmps = true) (hl : SVsOkM hp.length l) (ha : l.map (SV.den β) = args) (hM : Mem (Bs.of w.heap.size K) hp β w) (hG : G.p (Sof S0 β hp) w)
  (h : Run (Cx.fnK P fn E w S0 K Ψ) ⟨.code code,[],⟨bj9 0 l,hp⟩,[]⟩ G) : Gives P f args w Ψ:=by
 refine bq4 hf hb hok hn ?_
 subst ha
 exact h.run _ _ w (bi8 hl hM rfl) .refl hG
theorem dx8 [Rd] {c : Cx} {fn : Func} {Ψ : Value → World → Prop} {rs : List ResultVar} {o : Out} {G : Gh} (v : Value) (hc : c.Ok) (hQ : c.Q = ax4 c.P fn Ψ) (hrs : fn.results.toList = rs) (he : ag2 o = true) (hv : ∀ β,af5 c.E rs o.st β = some v)
  (h : ∀ β S w,Mem c.bs o.st.hp β w → (∀ k,S k → Sof c.S0 β o.st.hp k) → Keeps c.K c.w0 w → G.p S w → Ψ v w) : Run c o G:=by
 refine ⟨fun β ρ w hS hw hG=>?_⟩
 have h1:=hv β
 unfold af5 at h1
 cases hl : aq7 c.E o.st rs with
 | none=>rw [hl] at h1; cases h1
 | some l=>
  rw [hl] at h1
  simp only [Option.map_some,Option.some.injEq] at h1
  have h2:=a32 hc.env hS hl
  have h3:=h β _ w hS.mem (fun k hk=>hk) hw hG
  have hend : ∀ e,e = Exit.ret ∨ e = Exit.normal → ax4 c.P fn Ψ e ρ w:=by
   rintro e (rfl | rfl) <;> exact ⟨_,hrs ▸ h2,h1 ▸ h3⟩
  unfold ag2 at he
  split at he <;> first | (cases he; done) | skip
  ·rename_i e1 e2
   rw [e1,e2]
   show c.Q .ret ρ w
   rw [hQ]
   exact hend _ (.inl rfl)
  rename_i e1 e2
  rw [e1,e2]
  show c.Q .normal ρ w
  rw [hQ]
  exact hend _ (.inr rfl)
theorem ah3 [Rd] {P : Program} {fn : Func} {E : Env} {w0 : World} {S0 K : Nat → Prop} {Ψ : Value → World → Prop} {rs : List ResultVar} {o : Out} {G : Gh} (v : Value) (hc : (Cx.fnK P fn E w0 S0 K Ψ).Ok) (hv0 : (ex (Cx.fnK P fn E w0 S0 K Ψ) o).vc = []) (hrs : fn.results.toList = rs) (he : ag2 (ex (Cx.fnK P fn E w0 S0 K Ψ) o) = true) (hv : ∀ β,af5 E rs (ex (Cx.fnK P fn E w0 S0 K Ψ) o).st β = some v)
  (h : ∀ β S w,Mem (Bs.of w0.heap.size K) (ex (Cx.fnK P fn E w0 S0 K Ψ) o).st.hp β w → (∀ k,S k → Sof S0 β (ex (Cx.fnK P fn E w0 S0 K Ψ) o).st.hp k) → Keeps K w0 w → G.p S w → Ψ v w) : Run (Cx.fnK P fn E w0 S0 K Ψ) o G:=
 ab4 hc hv0 (dx8 v hc rfl hrs he hv h)
section
variable {c : Cx} {o : Out} {G : Gh}
theorem d48 [Rd] {f : FuncId} [ci : CallI c.P f] {X : Value} (s : SV) (hc : c.Ok) (hv : (ex c o).vc = []) (hf : J0 f (ex c o) = true) (hok : s.Ok 0) (hX : s.den (fun _=>0) = X)
  (h : ∀ β S w,Up S w → Mem c.bs (ex c o).st.hp β w → (∀ k,S k → c.S0 k) → Keeps c.K c.w0 w → G.p S w → ∃ args,(C0 (ex c o)).map (SV.den β) = args ∧ Gives c.P f args w fun v w'=>v = X ∧ Ext w w')
  (hn : Run c (I1 (ex c o) s) G) : Run c o G:=by
 refine ab4 hc hv (be9 f hc (fun _ : Unit=>s) (fun _=>True) (fun _=>.nil) hf (fun β S w h1 h1' h2 h3 h4=>?_) fun _ _=>?_)
 ·obtain ⟨args,ha,hg⟩:=h β S w h1 h1' h2 h3 h4
  refine ⟨args,ha,hg.mono fun v w' hv=>⟨hv.2,(),?_,hok.le (Nat.zero_le _),trivial,trivial⟩⟩
  rw [hv.1,← hX]
  exact SV.den_congr (m:=0) (fun i hi=>absurd hi (Nat.not_lt_zero i)) hok
 exact au5 (fun S w _ h=>h.2) hn
theorem ac5 [Rd] {f : FuncId} [ci : CallI c.P f] {X : Value} (s : SV) (hX : s.den (fun _=>0) = X) (h : ∀ β S w,Up S w → Mem c.bs (ex c o).st.hp β w → (∀ k,S k → c.S0 k) → Keeps c.K c.w0 w → G.p S w → ∃ args,(C0 (ex c o)).map (SV.den β) = args ∧ Gives c.P f args w fun v w'=>v = X ∧ Ext w w') (hn : Run c (I1 (ex c o) s) G) (hc : c.Ok:=by exact ⟨b9,by assumption,j5⟩) (hv : (ex c o).vc = []:=by kernel_rfl) (hf : J0 f (ex c o) = true:=by kernel_rfl) (hok : s.Ok 0:=by exact U1 rfl) : Run c o G:=
 d48 s hc hv hf hok hX h hn
theorem fc4 [Rd] {f : FuncId} [ci : CallI c.P f] (pat : Value → SV) (Δ : Value → Gh) (hc : c.Ok) (hv : (ex c o).vc = []) (hf : J0 f (ex c o) = true) (hok : ∀ a S w,(Δ a).p S w → (pat a).Ok 0 ∧ (pat a).den (fun _=>0) = a)
  (h : ∀ β S w,Up S w → Mem c.bs (ex c o).st.hp β w → (∀ k,S k → c.S0 k) → Keeps c.K c.w0 w → G.p S w → ∃ args,(C0 (ex c o)).map (SV.den β) = args ∧ Gives c.P f args w fun v w'=>Ext w w' ∧ (Δ v).p S w')
  (hn : ∀ a,Run c (I1 (ex c o) (pat a)) ((Δ a).and G)) : Run c o G:=by
 refine ab4 hc hv (be9 f hc pat (fun _=>True) Δ hf (fun β S w h1 h1' h2 h3 h4=>?_) fun a _=>hn a)
 obtain ⟨args,ha,hg⟩:=h β S w h1 h1' h2 h3 h4
 refine ⟨args,ha,hg.mono fun v w' hv=>?_⟩
 obtain ⟨e1,e2⟩:=hok v S w' hv.2
 exact ⟨hv.1,v,by rw [SV.den_congr (m:=0) (β':=fun _=>0) (fun i hi=>absurd hi (Nat.not_lt_zero i)) e1,e2],e1.le (Nat.zero_le _),trivial,hv.2⟩
theorem d79 [Rd] {f : FuncId} [ci : CallI c.P f] (s : SV) (hc : c.Ok) (hv : (ex c o).vc = []) (hf : J0 f (ex c o) = true) (hok : s.Ok (ex c o).st.hp.length)
  (h : ∀ β S w,Up S w → Mem c.bs (ex c o).st.hp β w → (∀ k,S k → c.S0 k) → Keeps c.K c.w0 w → G.p S w → ∃ args,(C0 (ex c o)).map (SV.den β) = args ∧ Gives c.P f args w fun v w'=>v = s.den β ∧ Ext w w')
  (hn : Run c (I1 (ex c o) s) G) : Run c o G:=by
 refine ab4 hc hv (be9 f hc (fun _ : Unit=>s) (fun _=>True) (fun _=>.nil) hf (fun β S w h1 h1' h2 h3 h4=>?_) fun _ _=>?_)
 ·obtain ⟨args,ha,hg⟩:=h β S w h1 h1' h2 h3 h4
  exact ⟨args,ha,hg.mono fun v w' hv=>⟨hv.2,(),hv.1,hok,trivial,trivial⟩⟩
 exact au5 (fun S w _ h=>h.2) hn
theorem bk3 [Rd] {f : FuncId} [ci : CallI c.P f] (hc : c.Ok) (hv : (ex c o).vc = []) (hf : J0 f (ex c o) = true)
  (h : ∀ β S w,Up S w → Mem c.bs (ex c o).st.hp β w → (∀ k,S k → c.S0 k) → Keeps c.K c.w0 w → G.p S w → ∃ args,(C0 (ex c o)).map (SV.den β) = args ∧ GivesE c.P f args w (fun _ _=>False) fun ch w'=>∀ ρ,c.Q (.panic ch) ρ w') : Run c o G:=
 ab4 hc hv (b60 (α:=Unit) f hc (fun _=>.und) (fun _=>False) (fun _=>.nil) hf (fun β S w h1 h1' h2 h3 h4=>let ⟨args,ha,hg⟩:=h β S w h1 h1' h2 h3 h4; ⟨args,ha,hg.mono (fun _ _ hf=>hf.elim) fun _ _ hp=>hp⟩) fun _ hf=>hf.elim)
theorem bx6 [Rd] {f : FuncId} {args : List Value} {w : World} {X : List PanicEntry} {R : Fr → World → Prop} {k : List Kt} (h : Pan c.P f args w X) (hq : ∀ w',Ext w w' → ∀ ρ,c.Q (.panic X) ρ w') : GivesE c.P f args w (fun _ _=>False) fun ch w'=>∀ ρ,(c.sub R k).Q (.panic ch) ρ w':=
 h.mono (fun _ _ h=>h) fun ch w' hp ρ=>by
  obtain ⟨rfl,hk⟩:=hp
  exact ak6 (k:=k) (hq w' hk ρ)
def d61 (o : Out) : Option Value:=match bu8 o with
 | some (_,.nilCheck x)=>match opd o.st.fr x with
  | some (.one (.val v))=>some v
  | _=>none
 | _=>none
theorem c66 [Rd] (a : Addr) (hq : d61 o = some (.pointer (some a))) (hc : c.Ok) (hn : Run c (ah1 o (.one (.val (.pointer (some a)))) o.st.hp) G) : Run c o G:=by
 unfold d61 at hq
 split at hq <;> first | (cases hq; done) | skip
 rename_i d x hop
 split at hq <;> first | (cases hq; done) | skip
 rename_i v hx
 simp only [Option.some.injEq] at hq
 subst hq
 refine bj8 (α:=Unit) (fun _=>.one (.val (.pointer (some a)))) (fun _=>.nil) hop (fun β S w F ty hkn hM hup hS hw hG=>⟨(),w,.refl,(rfl : Value.oneCell' _ = true),trivial,?_,rfl⟩) hc fun _=>au5 (fun S w _ h=>h.2) hn
 have g1 : ev F x = .pointer (some a):=(hkn x (by simp [Op.operands]) _ hx).1
 intro d pos aft g
 simp [execOp,g1,SV.den,Ch.den]
def co4 (E : Env) (o : Out) : Option (Value × Nat):=match bu8 o with
 | some (_,.slice T x none none none)=>match opd o.st.fr x,F3 E T with
  | some (.one (.val v)),.array n e=>(E.get e).map fun _=>(v,n)
  | _,_=>none
 | _=>none
theorem dg4 [Rd] (b n : Nat) (hq : co4 c.E o = some (.pointer (some ⟨b,0,none⟩),n)) (hc : c.Ok) (hn : Run c (ah1 o (.one (.sl (.slice (some ⟨b,0,none⟩) n n) n)) o.st.hp) G) : Run c o G:=by
 unfold co4 at hq
 split at hq <;> first | (cases hq; done) | skip
 rename_i d T x hop
 split at hq <;> first | (cases hq; done) | skip
 rename_i v n' e hx hk
 cases hte : c.E.get e with
 | none=>rw [hte] at hq; cases hq
 | some te=>
  rw [hte] at hq
  simp only [Option.map_some,Option.some.injEq,Prod.mk.injEq] at hq
  obtain ⟨rfl,rfl⟩:=hq
  have hkd:=E8 (t:=T) hc.env
  rw [hk] at hkd
  have hkd' : c.P.underlying T = some (.array n' e):=hkd
  obtain ⟨z,hty,_⟩:=(hc.env.get hte).ty
  refine bj8 (α:=Unit) (fun _=>.one (.sl (.slice (some ⟨b,0,none⟩) n' n') n')) (fun _=>.nil) hop (fun β S w F ty hkn hM hup hS hw hG=>⟨(),w,.refl,⟨_,_,rfl,Nat.le_refl _⟩,trivial,?_,rfl⟩) hc fun _=>au5 (fun S w _ h=>h.2) hn
  have g1 : ev F x = .pointer (some ⟨b,0,none⟩):=(hkn x (by simp [Op.operands]) _ hx).1
  intro d pos aft g
  simp [execOp,g1,SV.den,Ch.den,Instr.sliceAt,Instr.slice,run_underlying hkd',Instr.sliceBounds,Instr.sliceBound,asIntOf,hty.runSize w,sliced,Instr.sureAddr,Addr.add]
theorem dx7 [Rd] (u : Value) (n : Nat) (Δ : Value → Gh) (hq : co4 c.E o = some (u,n)) (hc : c.Ok)
  (h : ∀ β S w,Mem c.bs o.st.hp β w → Keeps c.K c.w0 w → G.p S w → ∃ b k,u = .pointer (some ⟨b,k,none⟩) ∧ (Δ (.slice (some ⟨b,k,none⟩) n n)).p S w)
  (hn : ∀ v,Run c (ah1 o (.one (.sl v n)) o.st.hp) ((Δ v).and G)) : Run c o G:=by
 unfold co4 at hq
 split at hq <;> first | (cases hq; done) | skip
 rename_i d T x hop
 split at hq <;> first | (cases hq; done) | skip
 rename_i v n' e hx hk
 cases hte : c.E.get e with
 | none=>rw [hte] at hq; cases hq
 | some te=>
  rw [hte] at hq
  simp only [Option.map_some,Option.some.injEq,Prod.mk.injEq] at hq
  obtain ⟨rfl,rfl⟩:=hq
  have hkd:=E8 (t:=T) hc.env
  rw [hk] at hkd
  have hkd' : c.P.underlying T = some (.array n' e):=hkd
  obtain ⟨z,hty,_⟩:=(hc.env.get hte).ty
  refine bj8 (α:=Value) (fun v=>.one (.sl v n')) Δ hop (fun β S w F ty hkn hM hup hS hw hG=>?_) hc hn
  obtain ⟨b,k,hu,hΔ⟩:=h β S w hM hw hG
  refine ⟨.slice (some ⟨b,k,none⟩) n' n',w,.refl,⟨_,_,rfl,Nat.le_refl _⟩,hΔ,?_,rfl⟩
  have g1 : ev F x = .pointer (some ⟨b,k,none⟩):=by rw [(hkn x (by simp [Op.operands]) _ hx).1]; exact hu
  intro d pos aft g
  simp [execOp,g1,SV.den,Ch.den,Instr.sliceAt,Instr.slice,run_underlying hkd',Instr.sliceBounds,Instr.sliceBound,asIntOf,hty.runSize w,sliced,Instr.sureAddr,Addr.add]
theorem dt3 [Rd] (u : Value) (T : TypeId) (sz : Nat) (g : Bool) (pat : Value → SV) (Δ : Value → Gh) (hq : ldQ c.E o = some (u,T,sz,g)) (hc : c.Ok) (hok : ∀ a S w,(Δ a).p S w → (pat a).Ok 0 ∧ (pat a).den (fun _=>0) = a)
  (h : ∀ β S w,Mem c.bs o.st.hp β w → Keeps c.K c.w0 w → G.p S w → ∃ S' x,U2 g sz x ∧ At S' w u x.cells.toList ∧ (Δ x).p S w)
  (hn : ∀ a,Run c (ah1 o (pat a) o.st.hp) ((Δ a).and G)) : Run c o G:=by
 unfold ldQ at hq
 split at hq <;> first | (cases hq; done) | skip
 rename_i d T' x hop
 split at hq <;> first | (cases hq; done) | skip
 rename_i p hx
 cases hte : c.E.get T' with
 | none=>rw [hte] at hq; cases hq
 | some te=>
  rw [hte] at hq
  simp only [Option.map_some,Option.some.injEq,Prod.mk.injEq] at hq
  obtain ⟨rfl,rfl,rfl,rfl⟩:=hq
  refine bj8 pat Δ hop (fun β S w F ty hkn hM hup hS hw hG=>?_) hc hn
  obtain ⟨S',a,h1,h2,h3⟩:=h β S w hM hw hG
  obtain ⟨h4,h5⟩:=hok a S w h3
  have g1 : ev F x = p:=(hkn x (by simp [Op.operands]) _ hx).1
  obtain ⟨z,hty,_⟩:=(hc.env.get hte).ty
  refine ⟨a,w,.refl,h4.le (Nat.zero_le _),h3,?_,rfl⟩
  rw [SV.den_congr (m:=0) (β':=fun _=>0) (fun i hi=>absurd hi (Nat.not_lt_zero i)) h4,h5]
  exact h2.load hty h1 g1
theorem p8 [Rd] (u : Value) (T : TypeId) (sz : Nat) (g : Bool) (pat : Value → SV) (Δ : Value → Gh) (h : ∀ β S w,Mem c.bs o.st.hp β w → Keeps c.K c.w0 w → G.p S w → ∃ S' x,U2 g sz x ∧ At S' w u x.cells.toList ∧ (Δ x).p S w) (hn : ∀ a,Run c (ah1 o (pat a) o.st.hp) ((Δ a).and G)) (hq : ldQ c.E o = some (u,T,sz,g):=by kernel_rfl) (hc : c.Ok:=by exact ⟨b9,by assumption,j5⟩) (hok : ∀ a S w,(Δ a).p S w → (pat a).Ok 0 ∧ (pat a).den (fun _=>0) = a:=by exact fun _ _ _ h=>⟨h.ok,rfl⟩) : Run c o G:=
 dt3 u T sz g pat Δ hq hc hok h hn
end
theorem dc4 {S : Nat → Prop} {T : TypeId} {s n : Nat} {w : World} {v : Value} {cs : List Value} (h : Own 0 T s w v n cs) (hS : ∀ g,v.ownBlock = some g → S g) : Row S T s w v n cs:=by
 refine ⟨h.1,?_⟩
 rcases h.2 with h3 | ⟨g,cap,cur,hv,hg,hh,hn2,hm,hcc,ht⟩
 ·exact .inl h3
 exact .inr ⟨g,0,cap,cur,(0,0),hv,hn2,hm,hS g (by rw [hv]; rfl),hh,by omega,by simpa using ht⟩
theorem be7 {base : Bs} {hp : List HE} {β : Nat → Nat} {w : World} {b : Nat} {T : TypeId} {s n : Nat} {v : Value} {cs : List Value} (hb : nth hp b = some (.row T s v n cs)) (hM : Mem base hp β w) : Own 0 T s w v n cs:=by
 rw [X9] at hb
 exact hM.row b T s v n cs hb
theorem U6 {β : Nat → Nat} {n : Nat} {x : Value} : d8 β [.ag n x] = x.cells.toList:=by simp [d8,Ch.cells]
theorem dn8 {w : World} {T : TypeId} {s n : Nat} {v : Value} {cs : List Value} {β : Nat → Nat} (h : Own 0 T s w v n cs) : Mem (Bs.of w.heap.size fun k=>some k ≠ v.ownBlock) [.row T s v n cs] β w:=by
 have one : ∀ {i : Nat} {x : HE},[HE.row T s v n cs][i]? = some x → i = 0 ∧ x = .row T s v n cs:=by
  intro i x hi
  cases i with
  | zero=>simp at hi; exact ⟨rfl,hi.symm⟩
  | succ i=>simp at hi
 have mine : ∀ {i k : Nat},m7 β [.row T s v n cs] i k → i = 0 ∧ v.ownBlock = some k:=by
  rintro i k ⟨x,hi,hk⟩
  obtain ⟨rfl,rfl⟩:=one hi
  exact ⟨rfl,hk⟩
 refine ⟨fun i T' l hi=>?_,fun i T' s' v' n' cs' hi=>?_,fun i A hi=>?_,fun i k hk=>?_,fun i j k hi hj=>?_⟩
 ·cases (one hi).2
 ·cases (one hi).2; exact h
 ·cases (one hi).2
 ·obtain ⟨_,hk⟩:=mine hk
  exact ⟨.inr fun e=>e hk.symm,(h.lt k hk).2⟩
 rw [(mine hi).1,(mine hj).1]
theorem dm2 {S : Nat → Prop} {T : TypeId} {s n : Nat} {v : Value} {cs : List Value} {β : Nat → Nat} (hS : ∀ k,S k → some k ≠ v.ownBlock) : ∀ k,S k → Sof (fun k=>S k ∨ some k = v.ownBlock) β [.row T s v n cs] k:=by
 intro k hk
 refine ⟨.inl hk,?_⟩
 rintro i ⟨x,hi,hx⟩
 cases i with
 | zero=>
  simp at hi
  subst hi
  exact hS k hk (Eq.symm hx)
 | succ i=>simp at hi
theorem H8 {S : Nat → Prop} {v : Value} : ∀ k,¬ (some k ≠ v.ownBlock) → S k ∨ some k = v.ownBlock:=fun _ h=>.inr (Classical.byContradiction h)
theorem A8 {S : Nat → Prop} {v : Value} {w : World} (h : Up S w) : Up (fun k=>S k ∨ some k = v.ownBlock) w:=fun k hk=>.inl (h k hk)
theorem cn0 {T : TypeId} {s n b : Nat} {w : World} {cs : List Value} (h : Own 0 T s w (.slice (some ⟨b,0,none⟩) n n) n cs) : Blk w b T cs:=by
 rcases h.2 with ⟨h1,_⟩ | ⟨g,cap,cur,h1,_,h2,_,_,h3,h4⟩
 ·cases h1
 simp only [Value.slice.injEq,Option.some.injEq,Addr.mk.injEq] at h1
 obtain ⟨⟨rfl,_,_⟩,_,rfl⟩:=h1
 have e : cs = cur.toList:=by rw [← h4]; exact List.take_of_length_le (by simpa using Nat.le_of_eq h3)
 unfold Blk
 rw [h2,e]
theorem c49 {S : Nat → Prop} {T : TypeId} {s n : Nat} {v : Value} {cs : List Value} {β : Nat → Nat} {hp : List HE} {k : Nat} (i : Nat) (hb : nth hp i = some (.row T s v n cs)) (h : Sof (fun k=>S k ∨ some k = v.ownBlock) β hp k) : S k:=by
 rcases h.1 with h1 | h1
 ·exact h1
 rw [X9] at hb
 exact absurd ⟨_,hb,h1.symm⟩ (h.2 i)
structure ElsV {α : Type} (g : Bool) (s : Nat) (F : Value → α → Gh) (S : Nat → Prop) (w : World) (vs : List Value) (l : List α) : Prop where
 len : vs.length = l.length
 lies : ∀ x ∈ vs,U2 g s x
 el : ∀ (i : Nat) a x,l[i]? = some a → vs[i]? = some x → (F x a).p S w
abbrev a67 {α : Type} (g : Bool) (s : Nat) (F : Value → α → Gh) (vs : List Value) (l : List α) : Gh:=
 ⟨fun S w=>ElsV g s F S w vs l,fun h k=>⟨h.len,h.lies,fun i a x h1 h2=>(F x a).keep (h.el i a x h1 h2) k⟩,fun h k=>⟨h.len,h.lies,fun i a x h1 h2=>(F x a).mono (h.el i a x h1 h2) k⟩⟩
def H7 (vs : List Value) : List Value:=vs.flatMap fun x=>x.cells.toList
section
variable {α : Type} {g : Bool} {s : Nat} {F : Value → α → Gh} {S : Nat → Prop} {w : World} {vs : List Value} {l : List α}
theorem ac1 (h : ∀ x ∈ vs,U2 g s x) : (H7 vs).length = vs.length * s:=by
 induction vs with
 | nil=>simp [H7]
 | cons x r ih=>
  have h1:=(h x (List.mem_cons_self ..)).1
  have h2:=ih fun y hy=>h y (List.mem_cons_of_mem _ hy)
  unfold H7 at h2 ⊢
  rw [List.flatMap_cons,List.length_append,h1,h2,List.length_cons,Nat.add_mul,Nat.one_mul,Nat.add_comm]
theorem c36 (h : ∀ x ∈ vs,U2 g s x) : ∀ {i : Nat} {y : Value},i < vs.length → (H7 vs).take (i * s) ++ y.cells.toList ++ (H7 vs).drop (i * s + s) = H7 (vs.set i y):=by
 induction vs with
 | nil=>intro i y hi; simp at hi
 | cons x r ih=>
  intro i y hi
  have h1:=(h x (List.mem_cons_self ..)).1
  have ih2 : ∀ {i : Nat} {y : Value},i < r.length → (H7 r).take (i * s) ++ y.cells.toList ++ (H7 r).drop (i * s + s) = H7 (r.set i y):=ih fun y hy=>h y (List.mem_cons_of_mem _ hy)
  unfold H7 at ih2 ⊢
  rw [List.flatMap_cons]
  cases i with
  | zero=>
   rw [Nat.zero_mul,Nat.zero_add,List.take_zero,List.nil_append,List.drop_left' h1,List.set_cons_zero,List.flatMap_cons]
  | succ i=>
   rw [Nat.add_mul,Nat.one_mul,List.set_cons_succ,List.flatMap_cons,← ih2 (i:=i) (y:=y) (by simpa using hi)]
   generalize r.flatMap (fun x=>x.cells.toList) = C
   have e1 : (x.cells.toList ++ C).take (i * s + s) = x.cells.toList ++ C.take (i * s):=by
    rw [show i * s + s = x.cells.toList.length + i * s by omega,List.take_length_add_append]
   have e2 : (x.cells.toList ++ C).drop (i * s + s + s) = C.drop (i * s + s):=by
    rw [show i * s + s + s = x.cells.toList.length + (i * s + s) by omega,List.drop_length_add_append]
   rw [e1,e2]
   simp only [List.append_assoc]
theorem ElsV.set (h : ElsV g s F S w vs l) {i : Nat} {y : Value} {a : α} (hy : U2 g s y) (hF : (F y a).p S w) : ElsV g s F S w (vs.set i y) (l.set i a):=by
 refine ⟨by simp [h.len],fun x hx=>?_,fun j b x h1 h2=>?_⟩
 ·rcases List.mem_or_eq_of_mem_set hx with hx | rfl
  ·exact h.lies x hx
  exact hy
 by_cases e : i = j
 ·subst e
  have hi:=(List.getElem?_eq_some_iff.1 h1).1
  rw [List.length_set] at hi
  rw [List.getElem?_set_self hi] at h1
  rw [List.getElem?_set_self (by rw [h.len]; exact hi)] at h2
  cases h1
  cases h2
  exact hF
 rw [List.getElem?_set_ne e] at h1 h2
 exact h.el j b x h1 h2
theorem ElsV.own {T : TypeId} {v : Value} {n i : Nat} {a : α} (h : ElsV g s F S w vs l) (hown : Own 0 T s w v n (H7 vs)) (hn : n = l.length) (ha : l[i]? = some a) :
  ∃ S' x,U2 g s x ∧ At S' w (.pointer (some (adr v (i * s)))) x.cells.toList ∧ (F x a).p S w:=by
 subst hn
 have hi:=(List.getElem?_eq_some_iff.1 ha).1
 have hx : vs[i]? = some (vs[i]'(by rw [h.len]; exact hi)):=List.getElem?_eq_getElem _
 obtain ⟨S',hr⟩:=bt3 hown
 have h1:=At.of_row hr hi
 have h2:=an6 h.lies hx
 unfold H7 at h1
 rw [h2] at h1
 exact ⟨S',_,h.lies _ (List.getElem_mem _),h1,h.el i a _ ha hx⟩
theorem ElsV.seq {T : TypeId} {v : Value} {n : Nat} (h : ElsV g s F S w vs l) (hown : Own 0 T s w v n (H7 vs)) (hn : n = l.length) : SeqV g s F (fun k=>S k ∨ some k = v.ownBlock) w v l:=by
 subst hn
 exact ⟨T,vs,h.len,h.lies,dc4 hown fun k hk=>.inr hk.symm,fun i a x ha hx=>(F x a).mono (h.el i a x ha hx) fun k _ hk=>.inl hk⟩
end
abbrev ap7 (x : Rat) : Prop:=¬ x = 0
noncomputable def Q8 (l : List Rat) : Rat:=l.getD (R6 ap7 l 0).toNat 0
noncomputable def ba1 (l : List Rat) : List Rat:=l.map (· / Q8 l)
noncomputable def am4 (l : List Rat) (b : Rat) (j : Nat) : List Rat:=(l.map (· / b)).take j ++ l.drop j
theorem cc5 (l : List Rat) (b : Rat) : am4 l b 0 = l:=by simp [am4]
theorem cv0 (l : List Rat) (b : Rat) : am4 l b l.length = l.map (· / b):=by unfold am4; rw [List.take_of_length_le (by simp),List.drop_length,List.append_nil]
theorem bq9 {l : List Rat} {b : Rat} {j : Nat} : (am4 l b j).length = l.length:=by unfold am4; simp; omega
theorem cv7 {l : List Rat} {b : Rat} {j : Nat} (h : j < l.length) : (am4 l b j)[j]? = some (l.getD j 0):=by
 unfold am4
 rw [List.getElem?_append_right (by simp; omega),List.length_take,List.length_map,Nat.min_eq_left (by omega),Nat.sub_self,List.getElem?_drop,Nat.add_zero,List.getD_eq_getElem?_getD,List.getElem?_eq_getElem h]
 rfl
theorem ch6 {l : List Rat} {b : Rat} {j : Nat} (h : j < l.length) : am4 l b (j + 1) = (am4 l b j).set j (l.getD j 0 / b):=by
 unfold am4
 have e1 : (l.map (· / b)).take (j + 1) = (l.map (· / b)).take j ++ [l.getD j 0 / b]:=by
  rw [List.take_add_one,List.getElem?_map,List.getElem?_eq_getElem h,List.getD_eq_getElem?_getD,List.getElem?_eq_getElem h]
  rfl
 have e2 : l.drop j = l.getD j 0 :: l.drop (j + 1):=by
  rw [List.drop_eq_getElem_cons h,List.getD_eq_getElem?_getD,List.getElem?_eq_getElem h]
  rfl
 rw [e1,e2,List.set_append_right _ _ (by simp; omega),List.length_take,List.length_map,Nat.min_eq_left (by omega),Nat.sub_self,List.set_cons_zero]
 simp
theorem a35 {p : Rat → Prop} : ∀ {l : List Rat} {k : Nat},0 ≤ R6 p l k → ∃ j,R6 p l k = ((k + j : Nat) : Int) ∧ j < l.length ∧ p (l.getD j 0):=by
 intro l
 induction l with
 | nil=>intro k h; unfold R6 at h; omega
 | cons x r ih=>
  intro k h
  unfold R6 at h ⊢
  by_cases hx : p x
  ·rw [if_pos hx]; exact ⟨0,by simp,by simp,hx⟩
  rw [if_neg hx] at h ⊢
  obtain ⟨j,h1,h2,h3⟩:=ih h
  exact ⟨j + 1,by rw [h1]; congr 1; omega,by simpa using h2,by simpa using h3⟩
theorem br1 {S : Nat → Prop} {w : World} {v : Value} {T : TypeId} {vs : List Value} {l : List Rat} (hS : Up S w) (hown : Own 0 T 3 w v l.length (H7 vs)) (hv : ElsV true 3 Y5 S w vs l) (hd : ∀ k,S k → some k ≠ v.ownBlock)
  (hl : ∀ x ∈ l,rl x 400000000000) (hf : ∀ x ∈ l,U5 (x / Q8 l)) (hne : 0 ≤ R6 ap7 l 0) :
  Gives prog 162 [v] w fun r w'=>r = .tuple #[] ∧ Keeps (fun k=>some k ≠ v.ownBlock) w w' ∧ ∃ vs',Own 0 T 3 w' v l.length (H7 vs') ∧ ElsV true 3 Y5 S w' vs' (ba1 l):=by
 have hmx:=hv.len
 have hmx2 : l.length ≤ maxLen:=by obtain ⟨S',hr⟩:=bt3 hown; exact hr.len_le
 unfold maxLen at hmx2
 obtain ⟨p,hp,hpl,hp0⟩:=a35 hne
 rw [Nat.zero_add] at hp
 have hlead : Q8 l = l.getD p 0:=by unfold Q8; rw [hp]; rfl
 have hp1 : l[p]? = some (Q8 l):=by rw [hlead,List.getD_eq_getElem?_getD,List.getElem?_eq_getElem hpl]; rfl
 have hmem : ∀ {j},j < l.length → l.getD j 0 ∈ l:=fun {j} hj=>by rw [List.getD_eq_getElem?_getD,List.getElem?_eq_getElem hj]; exact List.getElem_mem _
 have hnum : (Q8 l).num ≠ 0:=fun h=>hp0 (by rw [← hlead]; exact Rat.num_eq_zero.1 h)
 refine b51 (E:=env) (S0:=fun k=>S k ∨ some k = (v).ownBlock) (K:=fun k=>some k ≠ (v).ownBlock) (G:=(a67 true 3 Y5 vs l)) (l:=[.one (.sl v l.length)]) (hp:=[.row T 3 v l.length (H7 vs)]) (β:=fun _=>0) func162 rfl rfl rfl ⟨cx3 hown,trivial⟩ rfl (dn8 hown) (Gh.mono (a67 true 3 Y5 vs l) (S:=S) hv (fun k _ hk=>dm2 hd k hk)) ?_
 refine d48 (.one (.int .i64 (R6 ap7 l 0))) ⟨b9,A8 hS,H8⟩ (by kernel_rfl) (by kernel_rfl) (U1 rfl) rfl (fun β S w hS hM hs hw hG=>(kx (b03 192 (A8 hS) (hG.seq (be7 (T:=T) (b:=0) (s:=3) (n:=l.length) (v:=v) (cs:=H7 vs) (by kernel_rfl) hM) rfl) (fun _ _ _ _ _ h1 _ h3=>dq8 h1 h3)))) ?_
 refine d60 (p:=R6 ap7 l 0 < 0) ⟨b9,A8 hS,H8⟩ (by kernel_rfl) (by kernel_rfl) (by kernel_rfl) (by omega) ?_
 refine J6 ⟨b9,A8 hS,H8⟩ (dh8 v l.length (R6 ap7 l 0) 53 3 (by kernel_rfl) ⟨b9,A8 hS,H8⟩ (by omega) (by omega) (fun β S w hM hw hG=>let ⟨S',h⟩:=cj0 0 T 3 l.length v (H7 vs) (by kernel_rfl) hM; ⟨S',_,_,h⟩) ?_)
 refine J6 ⟨b9,A8 hS,H8⟩ (dt3 (.pointer (some (adr v ((R6 ap7 l 0).toNat * 3)))) 53 3 true (fun x0=>.one (.ag 3 x0)) (fun x0=>b8 x0 ((Q8 l))) (by kernel_rfl) ⟨b9,A8 hS,H8⟩ (fun _ _ _ h=>⟨h.ok,rfl⟩) (fun β S w hM hw hG=>by rw [hp]; exact hG.own (be7 (T:=T) (b:=0) (s:=3) (n:=l.length) (v:=v) (cs:=H7 vs) (by kernel_rfl) hM) rfl hp1) ?_)
 intro by0
 refine ah2 (ι:=Nat × List Value) [(4,4),(15,30)] (fun i=>[(15,.one (.int .i64 (i.1 : Int)))]) (fun i=>[(0,.row T 3 v l.length (H7 i.2))]) (fun i=>((a67 true 3 Y5 i.2 (am4 l (Q8 l) i.1)).and ((b8 by0 ((Q8 l))).and (a67 true 3 Y5 vs l)))) (fun i=>i.1 ≤ l.length) (fun i=>l.length - i.1) ((0,vs)) ⟨b9,A8 hS,H8⟩ (by kernel_rfl) (by kernel_rfl) (fun β=>(by kernel_rfl)) (fun β=>(by kernel_rfl)) (by kernel_rfl) (Nat.zero_le _) (fun S w hw hG=>⟨ay8 ⟨trivial,trivial⟩,an7 ⟨trivial,trivial⟩⟩) (fun S w hw hG=>have hv:=hG.2; ⟨(by rw [cc5]; exact hv),hG⟩) (fun hso i hi=>?_)
 refine d77 (p:=(i.1 : Int) < (l.length : Int)) ⟨b9,A8 hS,H8⟩ (by kernel_rfl) (by kernel_rfl) (by kernel_rfl) (fun hlt=>?_) (fun hlt=>?_)
 ·have hlt' : i.1 < l.length:=by omega
  have hg0:=cv7 (b:=Q8 l) hlt'
  refine I3 11 ⟨b9,A8 hS,H8⟩ ?_
  refine d9 4 ?_
  refine d21 (fun η=>v) l.length (i.1 : Int) 53 3 (fun u0=>A7 (u0 = .pointer (some (adr v (Int.toNat (i.1 : Int) * 3))))) (fun η=>(by kernel_rfl)) (fun η=>(by kernel_rfl)) ⟨b9,A8 hS,H8⟩ (fun β η S w hM hw hG hd=>⟨by omega,by omega,(let ⟨S',h⟩:=cj0 0 T 3 l.length v (H7 i.2) (by kernel_rfl) hM; ⟨S',_,_,h⟩),rfl⟩) ?_
  refine B8 (fun η=>η 4) 53 3 true (fun x0=>.one (.ag 3 x0)) (fun x0=>b8 x0 ((l.getD i.1 0))) ⟨b9,A8 hS,H8⟩ (fun β η S w hM hw hG hd=>by have e:=(n9 hd 4 : (A7 ((η 4) = .pointer (some (adr v (Int.toNat (i.1 : Int) * 3))))).p S w); simp only at e; rw [e]; exact hG.1.own (be7 (T:=T) (b:=0) (s:=3) (n:=l.length) (v:=v) (cs:=H7 i.2) (by kernel_rfl) hM) bq9.symm hg0) ?_
  refine d9 1 ?_
  refine h_1 (fun x0=>pr (.ag 3 (F4 x0)) (.lit .i64 0)) (fun x0=>ad7 x0 ((l.getD i.1 0 / Q8 l)) 0) (fun η=>(by kernel_rfl)) (fun _ _ _ h=>X3 h) (fun β η S w hS hs hw hG hd=>(kx (as6 (hf _ (hmem hlt')) (am5 hS (n9 hd 5 : (b8 (η 5) ((l.getD i.1 0))).p S w) hG.2.1 (hl _ (hmem hlt')) (hl _ (List.mem_of_getElem? hp1)) hnum)))) ?_
  refine d9 2 ?_
  refine q9 (fun x0=>.one (.ag 3 x0)) (fun x0=>b8 x0 ((l.getD i.1 0 / Q8 l))) (fun β η S w hS hs hw hG hd=>(kx (Z0 hS ((n9 hd 7 : (ad7 (η 7) ((l.getD i.1 0 / Q8 l)) 0).p S w)).2))) ?_
  refine ab5 (fun η=>((b8 (η 10) ((l.getD i.1 0 / Q8 l))).and ((ad7 (η 7) ((l.getD i.1 0 / Q8 l)) 0).and ((b8 (η 5) ((l.getD i.1 0))).and ((A7 ((η 4) = .pointer (some (adr v (Int.toNat (i.1 : Int) * 3))))).and ((a67 true 3 Y5 i.2 (am4 l (Q8 l) i.1)).and ((b8 by0 ((Q8 l))).and (a67 true 3 Y5 vs l)))))))) (by kernel_rfl) (fun η=>(by kernel_rfl)) ?_
  intro η_1
  refine J6 ⟨b9,A8 hS,H8⟩ (dh8 v l.length (i.1 : Int) 53 3 (by kernel_rfl) ⟨b9,A8 hS,H8⟩ (by omega) (by omega) (fun β S w hM hw hG=>let ⟨S',h⟩:=cj0 0 T 3 l.length v (H7 i.2) (by kernel_rfl) hM; ⟨S',_,_,h⟩) ?_)
  refine J6 ⟨b9,A8 hS,H8⟩ (fc7 (T:=T) (s:=3) (n:=l.length) (cs:=H7 i.2) 0 ((i.1 : Int).toNat * 3) v 3 [.ag 3 (η_1 10)] (H7 (i.2.set i.1 (η_1 10))) (by kernel_rfl) (by kernel_rfl) ⟨b9,A8 hS,H8⟩ (by decide) (by omega) (fun β S w hw hG=>by rw [Int.toNat_natCast,U6]; exact c36 hG.2.2.2.2.1.lies (by rw [hG.2.2.2.2.1.len,bq9]; exact hlt'))  ?_)
  refine d65 (ps:=[InR .i64 ((i.1 : Int) + 1)]) ⟨b9,A8 hS,H8⟩ (by kernel_rfl) (by simp only [O0,InR,and_true]; omega) ?_
  exact Z1 ((i.1 + 1,i.2.set i.1 (η_1 10))) ⟨b9,A8 hS,H8⟩ hso (by kernel_rfl) (by kernel_rfl) (fun β=>(by kernel_rfl)) (fun β=>(by kernel_rfl)) (by kernel_rfl) (by omega) (by simp only; omega) (fun S w hw hG=>⟨ay8 ⟨trivial,trivial⟩,an7 ⟨trivial,trivial⟩⟩) (fun S w hw hG=>⟨(by rw [ch6 hlt']; exact hG.2.2.2.2.1.set hG.1.lies hG.1),hG.2.2.2.2.2⟩)
 refine ds0 ⟨b9,A8 hS,H8⟩ (by kernel_rfl) (by kernel_rfl) ?_
 exact ah3 (.tuple #[]) ⟨b9,A8 hS,H8⟩ (by kernel_rfl) rfl (by kernel_rfl) (fun β=>(by kernel_rfl)) (fun β S w hM hs hw hG=>have ho:=hG.1; ⟨rfl,hw,i.2,be7 (T:=T) (b:=0) (s:=3) (n:=l.length) (v:=v) (cs:=H7 i.2) (by kernel_rfl) hM,by have e : i.1 = l.length:=(by omega); rw [e,cv0] at ho; exact ⟨ho.len,ho.lies,fun j a x h1 h2=>(ho.el j a x h1 h2).mono fun k _ hk=>c49 (T:=T) (s:=3) (n:=l.length) (cs:=H7 i.2) 0 (by kernel_rfl) (hs k hk)⟩⟩)
namespace T3
def list (t : T3) : List Rat:=[t.x,t.y,t.z]
theorem lead_list (t : T3) : Q8 t.list = t.lead:=by
 unfold Q8 lead list R6 R6 R6 R6 ap7
 by_cases h1 : t.x = 0
 ·by_cases h2 : t.y = 0
  ·by_cases h3 : t.z = 0
   ·simp [h1,h2,h3]
   simp [h1,h2,h3]
  simp [h1,h2]
 simp [h1]
theorem normal_list (t : T3) : ba1 t.list = t.normal.list:=by
 unfold ba1
 rw [lead_list]
 rfl
theorem fpos_list {t : T3} (h : ¬ t.None) : 0 ≤ R6 ap7 t.list 0:=by
 refine al3.1 ?_
 unfold None at h
 by_cases h1 : t.x = 0
 ·by_cases h2 : t.y = 0
  ·exact ⟨t.z,by simp [list],fun h3=>h ⟨h1,h2,h3⟩⟩
  exact ⟨t.y,by simp [list],h2⟩
 exact ⟨t.x,by simp [list],h1⟩
end T3
theorem ak5 {a b c : Value} (ha : U2 true 3 a) (hb : U2 true 3 b) (hc : U2 true 3 c) : (ax6 a b c).cells.toList = H7 [a,b,c]:=by
 simp [ax6,SV.den,d8,Ch.cells,Value.cells,H7]
theorem TripV.els {S : Nat → Prop} {w : World} {v : Value} {t : T3} (h : TripV S w v t) : ∃ vs,v.cells.toList = H7 vs ∧ ElsV true 3 Y5 S w vs t.list:=by
 obtain ⟨a,b,c,rfl,h1,h2,h3⟩:=h
 refine ⟨[a,b,c],ak5 h1.lies h2.lies h3.lies,rfl,fun x hx=>?_,fun i q x hq hx=>?_⟩
 ·simp only [List.mem_cons,List.not_mem_nil,or_false] at hx
  rcases hx with rfl | rfl | rfl
  ·exact h1.lies
  ·exact h2.lies
  exact h3.lies
 match i with
 | 0=>simp [T3.list] at hq hx; subst hq hx; exact h1
 | 1=>simp [T3.list] at hq hx; subst hq hx; exact h2
 | 2=>simp [T3.list] at hq hx; subst hq hx; exact h3
 | i + 3=>simp [T3.list] at hq
theorem TripV.of_els {S : Nat → Prop} {w : World} {vs : List Value} {t : T3} (h : ElsV true 3 Y5 S w vs t.list) : ∃ v,TripV S w v t ∧ v.cells.toList = H7 vs:=by
 obtain ⟨h1,h2,h3⟩:=h
 match vs,h1 with
 | [a,b,c],_=>exact ⟨ax6 a b c,⟨a,b,c,rfl,h3 0 _ _ rfl rfl,h3 1 _ _ rfl rfl,h3 2 _ _ rfl rfl⟩,ak5 (h2 a (by simp)) (h2 b (by simp)) (h2 c (by simp))⟩
theorem du5 {S : Nat → Prop} {w : World} {b : Nat} (hS : Up S w) : Gives prog 122 [.pointer (some ⟨b,0,none⟩)] w fun v w'=>v = .slice (some ⟨b,0,none⟩) 3 3 ∧ Ext w w':=by
 refine p7 (E:=env) (S0:=S) (G:=Gh.nil) (l:=[.one (.val (.pointer (some ⟨b,0,none⟩)))]) func122 rfl rfl rfl ⟨rfl,trivial⟩ rfl trivial ?_
 refine n7 (c66 ⟨b,0,none⟩ (by kernel_rfl) ⟨b9,hS,j5⟩  ?_)
 refine n7 (dg4 b 3 (by kernel_rfl) ⟨b9,hS,j5⟩  ?_)
 exact p9 (.slice (some ⟨b,0,none⟩) 3 3) rfl (fun S w hs hw hG=>⟨rfl,hw⟩)
theorem ca5 {S : Nat → Prop} {w : World} {v : Value} {t : T3} {β : Nat → Nat} {m : Nat} (hS : Up S w) (h : TripV S w v t) (hB : Blk w (β 0) 55 (d8 β [.ag 9 v])) (hb : ¬ S (β 0)) (hn : ¬ t.None) (hl : tl t 400000000000) (hf : U5 t.normal.x ∧ U5 t.normal.y ∧ U5 t.normal.z) :
  Gives prog 162 [.slice (some ⟨β 0,0,none⟩) 3 3] w fun r w'=>Wrt (β 0) w w' ∧ ∃ x,r = SV.und.den β ∧ SV.und.Ok m ∧ True ∧ Blk w' (β 0) 55 (d8 β [.ag 9 x]) ∧ (∀ ch ∈ [Ch.ag 9 x],ch.Ok m) ∧ (j6 x t.normal).p S w':=by
 obtain ⟨vs,e1,e2⟩:=h.els
 rw [U6,e1] at hB
 have ho : Own 0 55 3 w (.slice (some ⟨β 0,0,none⟩) 3 3) 3 (H7 vs):=at9 hB (Nat.zero_le _) (by decide) (by rw [ac1 e2.lies,e2.len]; rfl)
 have he : Q8 t.list = t.lead:=T3.lead_list t
 refine (br1 (T:=55) hS ho e2 (fun k hk e=>hb (by cases e; exact hk)) (fun x hx=>?_) (fun x hx=>?_) (T3.fpos_list hn)).mono ?_
 ·simp only [T3.list,List.mem_cons,List.not_mem_nil,or_false] at hx
  rcases hx with rfl | rfl | rfl
  ·exact hl.1
  ·exact hl.2.1
  exact hl.2.2
 ·rw [he]
  simp only [T3.list,List.mem_cons,List.not_mem_nil,or_false] at hx
  rcases hx with rfl | rfl | rfl
  ·exact hf.1
  ·exact hf.2.1
  exact hf.2.2
 rintro r w' ⟨rfl,k,vs',h1,h2⟩
 rw [T3.normal_list] at h2
 obtain ⟨x',h3,h4⟩:=TripV.of_els h2
 exact ⟨k.mono fun i hi e=>hi (by cases e; rfl),x',rfl,trivial,trivial,by rw [U6,h4]; exact cn0 h1,fun c hc=>by rw [List.mem_singleton.1 hc]; exact Ch.Ok.up (c:=.ag 9 x') h3.ok,h3⟩
theorem dc6 {S : Nat → Prop} {w : World} {v : Value} {t : T3} (hS : Up S w) (h : TripV S w v t) (hnn : ¬ t.None) (hl : tl t 400000000000) (hf : U5 t.normal.x ∧ U5 t.normal.y ∧ U5 t.normal.z) :
  Gives prog 121 [v,.func (.func 122) #[] #[]] w fun v' w'=>Ext w w' ∧ TripV S w' v' t.normal:=by
 refine p7 (E:=env) (S0:=S) (G:=(j6 v (t))) (l:=[.one (.ag 9 v),.one (.fn 122 [])]) func121 rfl rfl rfl ⟨h.ok,(fun _ h=>by cases h),trivial⟩ rfl h ?_
 refine d79 (.one (.win 0 0 3 3)) ⟨b9,hS,j5⟩ (by kernel_rfl) (by kernel_rfl) (Nat.le_of_ble_eq_true (by kernel_rfl)) (fun β S w hS hM hs hw hG=>(kx (du5 hS))) ?_
 refine n7 (cn6 162 0 55 ([.ag 9 v]) ⟨b9,hS,j5⟩ (by kernel_rfl) (fun _=>.und) (fun x0=>[.ag 9 x0]) (fun _=>True) (fun x0=>j6 x0 (t.normal)) (by kernel_rfl) (fun β S w hS hs hw hG hB hn=>(kx (ca5 hS hG hB hn hnn hl hf))) ?_)
 intro x _
 exact p9 (x) rfl (fun S w hs hw hG=>⟨hw,hG.1.mono fun k _ hk=>hs k hk⟩)
theorem af1 {S : Nat → Prop} {w : World} {v : Value} {t : T3} (hS : Up S w) (h : TripV S w v t) (hnn : ¬ t.None) (hl : tl t 400000000000) (hf : U5 t.normal.x ∧ U5 t.normal.y ∧ U5 t.normal.z) :
  Gives prog 69 [v] w fun v' w'=>Ext w w' ∧ TripV S w' v' t.normal:=by
 refine p7 (E:=env) (S0:=S) (G:=(j6 v (t))) (l:=[.one (.ag 9 v)]) func69 rfl rfl rfl ⟨h.ok,trivial⟩ rfl h ?_
 refine E9 (fun x0=>.one (.ag 9 x0)) (fun x0=>j6 x0 (t.normal)) (fun β S w hS hs hw hG=>(kx (dc6 hS hG hnn hl hf))) ?_
 intro x
 exact p9 (x) rfl (fun S w hs hw hG=>⟨hw,hG.1.mono fun k _ hk=>hs k hk⟩)
theorem au2 {t : T3} {n : Nat} (h : tl t n) (hn : n ≤ 3344) : U5 t.x ∧ U5 t.y ∧ U5 t.z:=⟨Q9 h.1 hn,Q9 h.2.1 hn,Q9 h.2.2 hn⟩
theorem cx5 {S : Nat → Prop} {w : World} {vp vq : Value} {p q : T3} {m n k : Nat} (hS : Up S w) (hp : TripV S w vp p) (hq : TripV S w vq q) (hm : tl p m) (hn : tl q n) (hmn : 2 * (m + n + 1) + 1 ≤ 3344) (hk : tl (p.cross q).normal k) (hk2 : k ≤ 3344) (hs0 : ¬ T3.Same p q) :
  Gives prog 85 [vp,vq] w fun v' w'=>Ext w w' ∧ TripV S w' v' (p.cross q).normal:=by
 refine p7 (E:=env) (S0:=S) (G:=((j6 vp (p)).and (j6 vq (q)))) (l:=[.one (.ag 9 vp),.one (.ag 9 vq)]) func85 rfl rfl rfl ⟨hp.ok,hq.ok,trivial⟩ rfl ⟨hp,hq⟩ ?_
 refine E9 (fun x0=>.one (.ag 9 x0)) (fun x0=>j6 x0 ((p.cross q))) (fun β S w hS hs hw hG=>(kx (J7 hS hG.1 hG.2 hm hn hmn))) ?_
 intro c
 refine z7 (.one (.tp (p.cross q).None)) rfl (fun β S w hS hs hw hG=>(kx (P8 hS hG.1))) ?_
 refine ai1 (p:=(p.cross q).None) (hs0) ?_
 refine E9 (fun x0=>.one (.ag 9 x0)) (fun x0=>j6 x0 ((p.cross q).normal)) (fun β S w hS hs hw hG=>(kx (af1 hS hG.1 hs0 (D4 (r9 hm hn)) (au2 hk hk2)))) ?_
 intro r
 exact p9 (r) rfl (fun S w hs hw hG=>⟨hw,hG.1.mono fun k _ hk=>hs k hk⟩)
theorem cz0 {S : Nat → Prop} {w : World} {vp vq : Value} {p q : T3} {m n : Nat} (hS : Up S w) (hp : TripV S w vp p) (hq : TripV S w vq q) (hm : tl p m) (hn : tl q n) (hmn : 2 * (m + n + 1) + 1 ≤ 3344) (hs0 : T3.Same p q) :
  Pan prog 85 [vp,vq] w (J2 61):=by
 refine J8 (E:=env) (S0:=S) (G:=((j6 vp (p)).and (j6 vq (q)))) (l:=[.one (.ag 9 vp),.one (.ag 9 vq)]) func85 rfl rfl rfl ⟨hp.ok,hq.ok,trivial⟩ rfl ⟨hp,hq⟩ ?_
 refine E9 (fun x0=>.one (.ag 9 x0)) (fun x0=>j6 x0 ((p.cross q))) (fun β S w hS hs hw hG=>(kx (J7 hS hG.1 hG.2 hm hn hmn))) ?_
 intro c
 refine z7 (.one (.tp (p.cross q).None)) rfl (fun β S w hS hs hw hG=>(kx (P8 hS hG.1))) ?_
 refine ad3 (p:=(p.cross q).None) (hs0) ?_
 exact av8 (fun β S w hS hs hw hG=>(kx (L5 (X4 (e:=61)) hw)))
open Classical in
noncomputable def D5 (t : T3) : Int:=if M9 t.list then 60 else if ak8 t.list then 11 else 0
open Classical in
noncomputable def Q6 : List T3 → Int
 | []=>0
 | t :: r=>if D5 t = 0 then Q6 r else D5 t
abbrev ad5 (x : Value) (t : T3) : Gh:=j6 x t
abbrev ap3 (v : Value) (l : List T3) : Gh:=d16 true 9 ad5 v l
theorem bv6 {base : Bs} {hp : List HE} {β : Nat → Nat} {S : Nat → Prop} {w : World} {x : Value} {t : T3} (i : Nat) (T : TypeId) (hM : Mem base hp β w) (hb : nth hp i = some (.blk T [.ag 9 x])) (h : TripV S w x t) :
  SeqV true 3 Y5 (fun k=>S k ∨ some k = Value.ownBlock (.slice (some ⟨β i,0,none⟩) 3 3)) w (.slice (some ⟨β i,0,none⟩) 3 3) t.list:=by
 rw [X9] at hb
 have hB:=(hM.blk i T _ hb).1
 obtain ⟨vs,e1,e2⟩:=h.els
 rw [U6,e1] at hB
 exact e2.seq (at9 hB (Nat.zero_le _) (by decide) (by rw [ac1 e2.lies,e2.len]; rfl)) rfl
theorem bf0 {t : T3} {n : Nat} (h : tl t n) : ∀ x ∈ t.list,rl x n:=by
 intro x hx
 simp only [T3.list,List.mem_cons,List.not_mem_nil,or_false] at hx
 rcases hx with rfl | rfl | rfl
 ·exact h.1
 ·exact h.2.1
 exact h.2.2
theorem bm0 {t : T3} (h : D5 t = 0) : ¬ M9 t.list ∧ ¬ ak8 t.list:=by
 unfold D5 at h
 split at h
 ·cases h
 split at h
 ·cases h
 exact ⟨‹_›,‹_›⟩
theorem ca6 {S : Nat → Prop} {w : World} {v : Value} {t : T3} (ht : Tab w) (hS : Up S w) (h : SeqV true 3 Y5 S w v t.list) (hl : tl t 1000000) (hb : D5 t ≠ 0) : Pan prog 117 [v] w (J2 (D5 t)):=by
 unfold D5 at hb ⊢
 split
 ·exact bj1 hS h ‹_›
 rw [if_neg ‹_›] at hb
 split
 ·exact bf4 ht hS h (bf0 hl) ‹_› ‹_›
 rw [if_neg ‹_›] at hb
 exact absurd rfl hb
theorem T3.getD_at {l : List T3} {j : Nat} (h : j < l.length) : l[j]? = some (l.getD j ⟨0,0,0⟩):=by rw [List.getD_eq_getElem?_getD,List.getElem?_eq_getElem h]; rfl
theorem M2 {S : Nat → Prop} {w : World} {v : Value} {l : List T3} (ht : Tab w) (hS : Up S w) (h : SeqV true 9 ad5 S w v l) (hl : ∀ t ∈ l,tl t 1000000) (hk : ∀ t ∈ l,D5 t = 0) : Gives prog 56 [v] w fun v' w'=>v' = .tuple #[] ∧ Ext w w':=by
 have hmx:=h.len_le
 unfold maxLen at hmx
 refine p7 (E:=env) (S0:=S) (G:=(ap3 v l)) (l:=[.one (.sl v l.length)]) func56 rfl rfl rfl ⟨h.sl,trivial⟩ rfl h ?_
 refine ah2 (ι:=Nat) [(3,3),(6,12)] (fun j=>[(6,.one (.int .i64 (j : Int)))]) (fun _=>[]) (fun j=>(ap3 v l)) (fun j=>j ≤ l.length) (fun j=>l.length - j) (0) ⟨b9,hS,j5⟩ (by kernel_rfl) (by kernel_rfl) (fun β=>(by kernel_rfl)) (fun β=>(by kernel_rfl)) (by kernel_rfl) (Nat.zero_le _) (fun S w hw hG=>⟨B9 rfl,fun p hp=>by cases hp⟩) (fun S w hw hG=>hG) (fun hso j hj=>?_)
 refine R8 (p:=(j : Int) < (l.length : Int)) (fun hlt=>?_) (fun hlt=>?_)
 ·have hlt' : j < l.length:=by omega
  have hx0:=T3.getD_at hlt'
  have hm:=List.mem_of_getElem? hx0
  refine n7 (bz6 v l.length (j : Int) 55 9 (fun u0=>atG true 9 (fun x0=>j6 x0 ((l.getD j ⟨0,0,0⟩))) u0) (by kernel_rfl) ⟨b9,hS,j5⟩ (fun β S w hM hw hG=>hG.el rfl rfl hx0) ?_)
  intro u_1
  refine n7 (bz1 u_1 55 9 true (fun x0=>.one (.ag 9 x0)) (fun x0=>j6 x0 ((l.getD j ⟨0,0,0⟩))) (by kernel_rfl) ⟨b9,hS,j5⟩ (fun S w hw hG=>hG.1) (fun _ _ _ h=>⟨h.ok,rfl⟩) ?_)
  intro x
  refine ac5 (.und) rfl (fun β S w hS hM hs hw hG=>(kx (ax5 (ht.to hw) (A8 hS) (bv6 0 55 hM (by kernel_rfl) hG.1) (bf0 (hl _ hm)) (bm0 (hk _ hm)).1 (bm0 (hk _ hm)).2))) ?_
  refine am2 (ps:=[InR .i64 ((j : Int) + 1)]) (by simp only [O0,InR,and_true]; omega) ?_
  exact Z1 (j + 1) ⟨b9,hS,j5⟩ hso (by kernel_rfl) (by kernel_rfl) (fun β=>(by kernel_rfl)) (fun β=>(by kernel_rfl)) (by kernel_rfl) (by omega) (by omega) (fun S w hw hG=>⟨B9 rfl,fun p hp=>by cases hp⟩) (fun S w hw hG=>hG.2.2)
 refine ag4 ?_
 exact p9 (.tuple #[]) rfl (fun S w hs hw hG=>⟨rfl,hw⟩)
theorem at4 {S : Nat → Prop} {w : World} {v : Value} {l : List T3} {n : Nat} (ht : Tab w) (hS : Up S w) (h : SeqV true 9 ad5 S w v l) (hl : ∀ t ∈ l,tl t 1000000) (hn : n < l.length) (hb : D5 (l.getD n ⟨0,0,0⟩) ≠ 0) (hk : ∀ i,i < n → D5 (l.getD i ⟨0,0,0⟩) = 0) : Pan prog 56 [v] w (J2 (D5 (l.getD n ⟨0,0,0⟩))):=by
 have hmx:=h.len_le
 unfold maxLen at hmx
 refine J8 (E:=env) (S0:=S) (G:=(ap3 v l)) (l:=[.one (.sl v l.length)]) func56 rfl rfl rfl ⟨h.sl,trivial⟩ rfl h ?_
 refine ah2 (ι:=Nat) [(3,3),(6,12)] (fun j=>[(6,.one (.int .i64 (j : Int)))]) (fun _=>[]) (fun j=>(ap3 v l)) (fun j=>j ≤ n) (fun j=>n - j) (0) ⟨b9,hS,j5⟩ (by kernel_rfl) (by kernel_rfl) (fun β=>(by kernel_rfl)) (fun β=>(by kernel_rfl)) (by kernel_rfl) (Nat.zero_le _) (fun S w hw hG=>⟨B9 rfl,fun p hp=>by cases hp⟩) (fun S w hw hG=>hG) (fun hso j hj=>?_)
 have hlt' : j < l.length:=by omega
 refine ad3 (p:=(j : Int) < (l.length : Int)) (by omega) ?_
 have hx0:=T3.getD_at hlt'
 have hm:=List.mem_of_getElem? hx0
 refine n7 (bz6 v l.length (j : Int) 55 9 (fun u0=>atG true 9 (fun x0=>j6 x0 ((l.getD j ⟨0,0,0⟩))) u0) (by kernel_rfl) ⟨b9,hS,j5⟩ (fun β S w hM hw hG=>hG.el rfl rfl hx0) ?_)
 intro u_1
 refine n7 (bz1 u_1 55 9 true (fun x0=>.one (.ag 9 x0)) (fun x0=>j6 x0 ((l.getD j ⟨0,0,0⟩))) (by kernel_rfl) ⟨b9,hS,j5⟩ (fun S w hw hG=>hG.1) (fun _ _ _ h=>⟨h.ok,rfl⟩) ?_)
 intro x
 by_cases e : j = n
 ·subst e
  exact bk3 ⟨b9,hS,j5⟩ (by kernel_rfl) (by kernel_rfl) (fun β S w hS hM hs hw hG=>(kx (bx6 (ca6 (ht.to hw) (A8 hS) (bv6 0 55 hM (by kernel_rfl) hG.1) (hl _ hm) hb) (fun w' hk' ρ=>⟨rfl,hw.trans hk'⟩))))
 have hj0:=bm0 (hk j (by omega))
 refine ac5 (.und) rfl (fun β S w hS hM hs hw hG=>(kx (ax5 (ht.to hw) (A8 hS) (bv6 0 55 hM (by kernel_rfl) hG.1) (bf0 (hl _ hm)) hj0.1 hj0.2))) ?_
 refine am2 (ps:=[InR .i64 ((j : Int) + 1)]) (by simp only [O0,InR,and_true]; omega) ?_
 exact Z1 (j + 1) ⟨b9,hS,j5⟩ hso (by kernel_rfl) (by kernel_rfl) (fun β=>(by kernel_rfl)) (fun β=>(by kernel_rfl)) (by kernel_rfl) (by omega) (by omega) (fun S w hw hG=>⟨B9 rfl,fun p hp=>by cases hp⟩) (fun S w hw hG=>hG.2.2)
abbrev A4 (u : Value) (t : T3) : Gh:=atG true 9 (fun x=>j6 x t) u
theorem bo4 {β : Nat → Nat} {n : Nat} : ∀ {vs : List Value},d8 β (vs.map (Ch.ag n)) = H7 vs:=by
 intro vs
 induction vs with
 | nil=>rfl
 | cons x r ih=>simp only [d8,H7,List.map_cons,List.flatMap_cons,Ch.cells] at ih ⊢; rw [ih]
theorem H2 {α : Type} {base : Bs} {hp : List HE} {β : Nat → Nat} {g : Bool} {s : Nat} {F : Value → α → Gh} {S : Nat → Prop} {w : World} {l : List α} (i : Nat) (T : TypeId) (vs : List Value) (hM : Mem base hp β w) (hb : nth hp i = some (.blk T (vs.map (Ch.ag s)))) (h : ElsV g s F S w vs l) (hl : l.length ≤ maxLen) :
  SeqV g s F (fun k=>S k ∨ some k = Value.ownBlock (.slice (some ⟨β i,0,none⟩) l.length l.length)) w (.slice (some ⟨β i,0,none⟩) l.length l.length) l:=by
 rw [X9] at hb
 have hB:=(hM.blk i T _ hb).1
 rw [bo4] at hB
 exact h.seq (at9 hB (Nat.zero_le _) hl (by rw [ac1 h.lies,h.len])) rfl
theorem TripV.lies {S : Nat → Prop} {w : World} {v : Value} {t : T3} (h : TripV S w v t) : U2 true 9 v := by
  obtain ⟨a, b, c, rfl, h1, h2, h3⟩ := h
  have e := ak5 h1.lies h2.lies h3.lies
  refine ⟨by rw [e, ac1 (g := true) (s := 3) (vs := [a, b, c])]; · rfl
             · intro x hx
               simp only [List.mem_cons, List.not_mem_nil, or_false] at hx
               rcases hx with rfl | rfl | rfl
               · exact h1.lies
               · exact h2.lies
               · exact h3.lies, ?_⟩
  simp [ax6, SV.den, Value.cells]
theorem cu8 {S : Nat → Prop} {w : World} {a b : Value} {p q : T3} (h1 : TripV S w a p) (h2 : TripV S w b q) : ElsV true 9 ad5 S w [a,b] [p,q]:=by
 refine ⟨rfl,fun x hx=>?_,fun i t x hq hx=>?_⟩
 ·simp only [List.mem_cons,List.not_mem_nil,or_false] at hx
  rcases hx with rfl | rfl
  ·exact h1.lies
  exact h2.lies
 match i with
 | 0=>simp at hq hx; subst hq hx; exact h1
 | 1=>simp at hq hx; subst hq hx; exact h2
 | i + 2=>simp at hq
theorem bn0 {p q : T3} {P : T3 → Prop} (h1 : P p) (h2 : P q) : ∀ t ∈ [p,q],P t:=by
 intro t ht
 simp only [List.mem_cons,List.not_mem_nil,or_false] at ht
 rcases ht with rfl | rfl
 ·exact h1
 exact h2
theorem c39 {S : Nat → Prop} {w : World} {u1 u2 : Value} {p q : T3} {m n k : Nat} (ht : Tab w) (hS : Up S w) (o1 : u1.oneCell' = true) (o2 : u2.oneCell' = true) (h1 : (A4 u1 p).p S w) (h2 : (A4 u2 q).p S w) (hm : tl p m) (hn : tl q n) (hmn : 2 * (m + n + 1) + 1 ≤ 3344) (hk : tl (p.cross q).normal k) (hk2 : k ≤ 3344)
  (hp0 : D5 p = 0) (hq0 : D5 q = 0) (hs0 : ¬ T3.Same p q) :
  Gives prog 137 [u1,u2] w fun v' w'=>Ext w w' ∧ TripV S w' v' (p.cross q).normal:=by
 refine p7 (E:=env) (S0:=S) (G:=((A4 u1 p).and (A4 u2 q))) (l:=[.one (.val u1),.one (.val u2)]) func137 rfl rfl rfl ⟨o1,o2,trivial⟩ rfl ⟨h1,h2⟩ ?_
 refine n7 (p8 u1 55 9 true (fun x0=>.one (.ag 9 x0)) (fun x0=>j6 x0 (p)) (fun β S w hM hw hG=>let ⟨y,e1,e2,e3⟩:=hG.1; ⟨S,y,e1,e2,e3⟩) ?_)
 intro x
 refine n7 (p8 u2 55 9 true (fun x0=>.one (.ag 9 x0)) (fun x0=>j6 x0 (q)) (fun β S w hM hw hG=>let ⟨y,e1,e2,e3⟩:=hG.2.2; ⟨S,y,e1,e2,e3⟩) ?_)
 intro y
 refine ac5 (.und) rfl (fun β S w hS hM hs hw hG=>(kx (M2 (ht.to hw) (A8 hS) (H2 1 55 [x,y] hM (by kernel_rfl) (cu8 hG.2.1 hG.1) (show 2 ≤ maxLen by decide)) (bn0 (D4 hm) (D4 hn)) (bn0 hp0 hq0)))) ?_
 refine n7 (p8 u1 55 9 true (fun x0=>.one (.ag 9 x0)) (fun x0=>j6 x0 (p)) (fun β S w hM hw hG=>let ⟨y,e1,e2,e3⟩:=hG.2.2.1; ⟨S,y,e1,e2,e3⟩) ?_)
 intro x2
 refine n7 (p8 u2 55 9 true (fun x0=>.one (.ag 9 x0)) (fun x0=>j6 x0 (q)) (fun β S w hM hw hG=>let ⟨y,e1,e2,e3⟩:=hG.2.2.2.2; ⟨S,y,e1,e2,e3⟩) ?_)
 intro y2
 refine E9 (fun x0=>.one (.ag 9 x0)) (fun x0=>j6 x0 ((p.cross q).normal)) (fun β S w hS hs hw hG=>(kx (cx5 hS hG.2.1 hG.1 hm hn hmn hk hk2 hs0))) ?_
 intro r
 exact p9 (r) rfl (fun S w hs hw hG=>⟨hw,hG.1.mono fun k _ hk=>hs k hk⟩)
theorem dg2 {S : Nat → Prop} {w : World} {u1 u2 : Value} {p q : T3} {m n : Nat} (ht : Tab w) (hS : Up S w) (o1 : u1.oneCell' = true) (o2 : u2.oneCell' = true) (h1 : (A4 u1 p).p S w) (h2 : (A4 u2 q).p S w) (hm : tl p m) (hn : tl q n) (hmn : 2 * (m + n + 1) + 1 ≤ 3344)
  (hp0 : D5 p = 0) (hq0 : D5 q = 0) (hs0 : T3.Same p q) :
  Pan prog 137 [u1,u2] w (J2 61):=by
 refine J8 (E:=env) (S0:=S) (G:=((A4 u1 p).and (A4 u2 q))) (l:=[.one (.val u1),.one (.val u2)]) func137 rfl rfl rfl ⟨o1,o2,trivial⟩ rfl ⟨h1,h2⟩ ?_
 refine n7 (p8 u1 55 9 true (fun x0=>.one (.ag 9 x0)) (fun x0=>j6 x0 (p)) (fun β S w hM hw hG=>let ⟨y,e1,e2,e3⟩:=hG.1; ⟨S,y,e1,e2,e3⟩) ?_)
 intro x
 refine n7 (p8 u2 55 9 true (fun x0=>.one (.ag 9 x0)) (fun x0=>j6 x0 (q)) (fun β S w hM hw hG=>let ⟨y,e1,e2,e3⟩:=hG.2.2; ⟨S,y,e1,e2,e3⟩) ?_)
 intro y
 refine ac5 (.und) rfl (fun β S w hS hM hs hw hG=>(kx (M2 (ht.to hw) (A8 hS) (H2 1 55 [x,y] hM (by kernel_rfl) (cu8 hG.2.1 hG.1) (show 2 ≤ maxLen by decide)) (bn0 (D4 hm) (D4 hn)) (bn0 hp0 hq0)))) ?_
 refine n7 (p8 u1 55 9 true (fun x0=>.one (.ag 9 x0)) (fun x0=>j6 x0 (p)) (fun β S w hM hw hG=>let ⟨y,e1,e2,e3⟩:=hG.2.2.1; ⟨S,y,e1,e2,e3⟩) ?_)
 intro x2
 refine n7 (p8 u2 55 9 true (fun x0=>.one (.ag 9 x0)) (fun x0=>j6 x0 (q)) (fun β S w hM hw hG=>let ⟨y,e1,e2,e3⟩:=hG.2.2.2.2; ⟨S,y,e1,e2,e3⟩) ?_)
 intro y2
 exact av8 (fun β S w hS hs hw hG=>(kx (L5 (cz0 hS hG.2.1 hG.1 hm hn hmn hs0) hw)))
noncomputable def X6 (p q : T3) : Int:=if D5 p = 0 then D5 q else D5 p
theorem bk6 {S : Nat → Prop} {w : World} {v : Value} {p q : T3} (ht : Tab w) (hS : Up S w) (h : SeqV true 9 ad5 S w v [p,q]) (hm : tl p 1000000) (hn : tl q 1000000) (hb : X6 p q ≠ 0) : Pan prog 56 [v] w (J2 (X6 p q)):=by
 unfold X6 at hb ⊢
 split
 ·rename_i e
  rw [if_pos e] at hb
  exact at4 (n:=1) ht hS h (bn0 hm hn) (show 1 < 2 by decide) hb (fun i hi=>by
   obtain rfl : i = 0:=by omega
   exact e)
 rename_i e
 exact at4 (n:=0) ht hS h (bn0 hm hn) (show 0 < 2 by decide) e (fun i hi=>by omega)
theorem c85 {S : Nat → Prop} {w : World} {u1 u2 : Value} {p q : T3} (ht : Tab w) (hS : Up S w) (o1 : u1.oneCell' = true) (o2 : u2.oneCell' = true) (h1 : (A4 u1 p).p S w) (h2 : (A4 u2 q).p S w) (hm : tl p 1000000) (hn : tl q 1000000) (hb : X6 p q ≠ 0) :
  Pan prog 137 [u1,u2] w (J2 (X6 p q)):=by
 refine J8 (E:=env) (S0:=S) (G:=((A4 u1 p).and (A4 u2 q))) (l:=[.one (.val u1),.one (.val u2)]) func137 rfl rfl rfl ⟨o1,o2,trivial⟩ rfl ⟨h1,h2⟩ ?_
 refine n7 (p8 u1 55 9 true (fun x0=>.one (.ag 9 x0)) (fun x0=>j6 x0 (p)) (fun β S w hM hw hG=>let ⟨y,e1,e2,e3⟩:=hG.1; ⟨S,y,e1,e2,e3⟩) ?_)
 intro x
 refine n7 (p8 u2 55 9 true (fun x0=>.one (.ag 9 x0)) (fun x0=>j6 x0 (q)) (fun β S w hM hw hG=>let ⟨y,e1,e2,e3⟩:=hG.2.2; ⟨S,y,e1,e2,e3⟩) ?_)
 intro y
 exact bk3 ⟨b9,hS,j5⟩ (by kernel_rfl) (by kernel_rfl) (fun β S w hS hM hs hw hG=>(kx (L5 (bk6 (ht.to hw) (A8 hS) (H2 1 55 [x,y] hM (by kernel_rfl) (cu8 hG.2.1 hG.1) (show 2 ≤ maxLen by decide)) hm hn hb) hw)))
theorem d39 {S : Nat → Prop} {w : World} {u1 u2 : Value} {p q : T3} {m n : Nat} (ht : Tab w) (hS : Up S w) (o1 : u1.oneCell' = true) (o2 : u2.oneCell' = true) (h1 : (A4 u1 p).p S w) (h2 : (A4 u2 q).p S w) (hm : tl p m) (hn : tl q n) (hmn : 3 * (m + n + 1) + 1 ≤ 3344) (hp0 : D5 p = 0) (hq0 : D5 q = 0) :
  Gives prog 92 [u1,u2] w fun v' w'=>v' = .bool (tst (p.dot q = 0)) ∧ Ext w w':=by
 refine p7 (E:=env) (S0:=S) (G:=((A4 u1 p).and (A4 u2 q))) (l:=[.one (.val u1),.one (.val u2)]) func92 rfl rfl rfl ⟨o1,o2,trivial⟩ rfl ⟨h1,h2⟩ ?_
 refine n7 (p8 u1 55 9 true (fun x0=>.one (.ag 9 x0)) (fun x0=>j6 x0 (p)) (fun β S w hM hw hG=>let ⟨y,e1,e2,e3⟩:=hG.1; ⟨S,y,e1,e2,e3⟩) ?_)
 intro x
 refine n7 (p8 u2 55 9 true (fun x0=>.one (.ag 9 x0)) (fun x0=>j6 x0 (q)) (fun β S w hM hw hG=>let ⟨y,e1,e2,e3⟩:=hG.2.2; ⟨S,y,e1,e2,e3⟩) ?_)
 intro y
 refine ac5 (.und) rfl (fun β S w hS hM hs hw hG=>(kx (M2 (ht.to hw) (A8 hS) (H2 0 55 [x,y] hM (by kernel_rfl) (cu8 hG.2.1 hG.1) (show 2 ≤ maxLen by decide)) (bn0 (D4 hm) (D4 hn)) (bn0 hp0 hq0)))) ?_
 refine n7 (p8 u1 55 9 true (fun x0=>.one (.ag 9 x0)) (fun x0=>j6 x0 (p)) (fun β S w hM hw hG=>let ⟨y,e1,e2,e3⟩:=hG.2.2.1; ⟨S,y,e1,e2,e3⟩) ?_)
 intro x2
 refine n7 (p8 u2 55 9 true (fun x0=>.one (.ag 9 x0)) (fun x0=>j6 x0 (q)) (fun β S w hM hw hG=>let ⟨y,e1,e2,e3⟩:=hG.2.2.2.2; ⟨S,y,e1,e2,e3⟩) ?_)
 intro y2
 refine E9 (fun x0=>.one (.ag 3 x0)) (fun x0=>b8 x0 ((p.dot q))) (fun β S w hS hs hw hG=>(kx (an3 hS hG.2.1 hG.1 hm hn hmn))) ?_
 intro r
 refine z7 (.one (.tp (p.dot q = 0))) rfl (fun β S w hS hs hw hG=>(kx (E7 hS hG.1))) ?_
 exact p9 (.bool (tst (p.dot q = 0))) rfl (fun S w hs hw hG=>⟨rfl,hw⟩)
theorem d37 {S : Nat → Prop} {w : World} {u1 u2 : Value} {p q : T3} (ht : Tab w) (hS : Up S w) (o1 : u1.oneCell' = true) (o2 : u2.oneCell' = true) (h1 : (A4 u1 p).p S w) (h2 : (A4 u2 q).p S w) (hm : tl p 1000000) (hn : tl q 1000000) (hb : X6 p q ≠ 0) :
  Pan prog 92 [u1,u2] w (J2 (X6 p q)):=by
 refine J8 (E:=env) (S0:=S) (G:=((A4 u1 p).and (A4 u2 q))) (l:=[.one (.val u1),.one (.val u2)]) func92 rfl rfl rfl ⟨o1,o2,trivial⟩ rfl ⟨h1,h2⟩ ?_
 refine n7 (p8 u1 55 9 true (fun x0=>.one (.ag 9 x0)) (fun x0=>j6 x0 (p)) (fun β S w hM hw hG=>let ⟨y,e1,e2,e3⟩:=hG.1; ⟨S,y,e1,e2,e3⟩) ?_)
 intro x
 refine n7 (p8 u2 55 9 true (fun x0=>.one (.ag 9 x0)) (fun x0=>j6 x0 (q)) (fun β S w hM hw hG=>let ⟨y,e1,e2,e3⟩:=hG.2.2; ⟨S,y,e1,e2,e3⟩) ?_)
 intro y
 exact bk3 ⟨b9,hS,j5⟩ (by kernel_rfl) (by kernel_rfl) (fun β S w hS hM hs hw hG=>(kx (L5 (bk6 (ht.to hw) (A8 hS) (H2 0 55 [x,y] hM (by kernel_rfl) (cu8 hG.2.1 hG.1) (show 2 ≤ maxLen by decide)) hm hn hb) hw)))
def al1 : List Value:=[.bool false,.slice none 0 0,.slice none 0 0,.bool false,.slice none 0 0,.slice none 0 0,.bool false,.slice none 0 0,.slice none 0 0]
theorem bp5 : ∀ v ∈ al1,v.oneCell' = true:=by
 intro v hv
 simp only [al1,List.mem_cons,List.not_mem_nil,or_false] at hv
 rcases hv with rfl | rfl | rfl | rfl | rfl | rfl | rfl | rfl | rfl <;> rfl
theorem by9 {w : World} {g1 g2 : Nat} : GivesD prog 116 [.pointer (some ⟨g1,0,none⟩),.pointer (some ⟨g2,0,none⟩)] .returning w fun u' w'=>u' = .returning ∧ w' = w:=by
 refine G6 func116 rfl rfl rfl rfl rfl (.inl ⟨rfl,rfl,rfl⟩) ?_
 repeat (first | refine R0 rfl ?_ | refine wW ?_ | refine wp_skip ?_ | refine wp_cond_false rfl ?_)
 exact ⟨[],rfl,rfl,rfl⟩
theorem b34 {w : World} {g1 g2 : Nat} {cs1 : List Value} {e : Value} {E : Int} (h1 : Blk w g1 55 cs1) (hl : cs1.length = 9) (h2 : Blk w g2 56 [e]) :
  GivesD prog 116 [.pointer (some ⟨g1,0,none⟩),.pointer (some ⟨g2,0,none⟩)] (.panicking (J2 E)) w fun u' w'=>settle u' = .returning ∧
   Keeps (fun k=>k ≠ g1 ∧ k ≠ g2) w w' ∧ Blk w' g1 55 al1 ∧ Blk w' g2 56 [.int .i64 E]:=by
 have hne : g1 ≠ g2:=h1.ne h2 (by decide)
 refine G6 func116 rfl rfl rfl rfl rfl (.inr ⟨_,rfl,rfl,rfl⟩) ?_
 repeat (first | refine ab9 rfl ?_ | refine aq0 rfl ?_ | refine wW ?_ | refine D6 rfl rfl ?_ | refine wp_cond_true rfl ?_)
 refine r5 (cs:=[.int .i64 0]) rfl ?_
 intro w1 g3 k1 hg3 hgs3
 have hl1:=h1.lt
 have hl2:=h2.lt
 refine A5 (us:=[.int .i64 E]) rfl (by conv=>(lhs; whnf)) rfl rfl hg3 rfl (fun v hv=>by rw [List.mem_singleton.1 hv]; rfl) ?_
 intro w2 k2 hg32
 repeat (first | refine aw4 rfl ?_ | refine wW ?_ | refine d7 ?_ | refine wp_skip ?_ | refine wp_cond_false rfl ?_)
 refine r5 (cs:=al1) rfl ?_
 intro w3 g5 k3 hg5 hgs5
 have k : Ext w w3:=(Keeps.past k1 k2 hgs3).trans k3
 have hg33:=hg32.to k3
 have hl3:=hg32.lt
 repeat refine wW ?_
 refine am3 (R:=OneW g1 55 cs1 al1) 4 OneW.trans OneW.drew (by kernel_rfl) (by kernel_rfl) ?_
 apply F1
 ·intro x w1 k1 hd
  refine o5 rfl (hg5.wr k1.1 (by omega)) rfl ?_
  refine d6 ?_
  exact Q4 OneW.refl
 apply F1
 ·intro x w1 k1 hd
  refine l6 rfl ?_
  refine d6 ?_
  exact Q4 OneW.refl
 apply F1
 ·intro x w1 k1 hd
  refine i1 rfl (hg33.wr k1.1 (by omega)) rfl ?_
  refine d6 ?_
  exact Q4 OneW.refl
 refine F1 (e:=EntR.of (fun v w=>Blk w g1 55 al1) (fun v w w' h k=>k.2.2 h)) ?_ ?_
 ·intro x w1 k1 hd
  rcases k1.2.1 (.inl (h1.to k)) with hgx | hgx
  ·refine A5 (us:=al1) rfl (by conv=>(lhs; whnf)) rfl rfl hgx hl bp5 ?_
   intro w12 k12 hg12
   exact d6 (U7 (OneW.wrote k12 hg12) hg12)
  refine A5 (us:=al1) rfl (by conv=>(lhs; whnf)) rfl rfl hgx rfl bp5 ?_
  intro w12 k12 hg12
  exact d6 (U7 (OneW.wrote k12 hg12) hg12)
 refine a19 (a64 ?_)
 intro x w12 k12 hall
 have h14 : Blk w12 g1 55 al1:=hall.1
 refine L6 (u:=.int .i64 E) rfl rfl ((h2.to k).wr k12.1 (fun e=>hne e.symm)) (show 0 < 1 by decide) rfl ?_
 intro w5 k5 h25
 repeat (first | refine d6 ?_)
 refine ⟨[],rfl,rfl,?_,h14.wr k5 hne,h25⟩
 exact ((Keeps.of k).trans (k12.1.mono fun i hi=>hi.1)).trans (k5.mono fun i hi=>hi.2)
theorem ax8 {S : Nat → Prop} {w : World} {F : FuncId} [ci : CallI prog F] {cap : List Value} {t : T3} {E : Int} {Y Z : Prop} (hS : Up S w)
  (h : ∀ S' w',Up S' w' → Ext w w' → (∀ k,S' k → S k) → (∀ k,k < w.heap.size → S k → S' k) → GivesE prog F cap w' (fun v w''=>Ext w' w'' ∧ TripV S' w'' v t ∧ Y) fun ch w''=>ch = J2 E ∧ Ext w' w'' ∧ Z) :
  Gives prog 53 [.func (.func F) #[] cap.toArray] w fun v' w'=>Ext w w' ∧ ((∃ x,v' = .tuple #[x,.int .i64 0] ∧ TripV S w' x t ∧ Y) ∨ (v' = .tuple #[.agg al1.toArray,.int .i64 E] ∧ Z)):=by
 refine R2 func53 rfl rfl rfl ?_
 refine a55 ?_
 repeat (first | refine aa7 ?_)
 refine r5 (cs:=al1) rfl ?_
 intro w1 g1 k1 hg1 hgs1
 skip
 refine r5 (cs:=[.int .i64 0]) rfl ?_
 intro w2 g2 k2 hg2 hgs2
 have hgl:=hg1.lt
 have hgl2:=hg2.lt
 replace hg1:=hg1.to k2
 have k:=k1.trans k2
 have hk1:=k1.size
 have hk2:=k2.size
 have hS2 : Up (fun k=>S k ∧ k ≠ g1 ∧ k ≠ g2) w2:=fun i hi=>⟨hS i (by omega),by omega,by omega⟩
 have hc:=h (fun k=>S k ∧ k ≠ g1 ∧ k ≠ g2) w2 hS2 k (fun _ h=>h.1) (fun i hi hs=>⟨hs,by omega,by omega⟩)
 repeat refine wW ?_
 refine W6 ?_
 refine a39 ?_ (fun e a ρ w hm hq=>aq6 hm hq)
 repeat refine wW ?_
 refine at3 (first:=[]) (cap:=cap) rfl hc rfl ?_ ?_
 ·rintro v3 w3 ⟨k3,hf,hy⟩
  obtain ⟨us,hv,hul,hu1⟩:=hf.ok
  skip
  refine A5 (us:=us) rfl (by conv=>(lhs; whnf)) (by rw [hv]; rfl) hul (hg1.to k3) rfl hu1 ?_
  intro w4 k4 hg4
  have hg24:=(hg2.to k3).wr k4 (by omega)
  refine L6 (u:=.int .i64 0) rfl rfl hg24 (show 0 < 1 by decide) rfl ?_
  intro w5 k5 hg5
  have hg45:=hg4.wr k5 (by omega)
  repeat refine wW ?_
  refine by9.mono ?_
  rintro u' w' ⟨rfl,rfl⟩
  refine ⟨rfl,[.agg us.toArray,.int .i64 0],⟨_,_,o7 hg45 hul,⟨_,_,P7 (by conv=>(lhs; whnf)) hg5,rfl,rfl⟩,rfl⟩,?_⟩
  refine ⟨((Keeps.past (k.trans k3) k4 (by omega)).past k5 (by omega)),.inl ⟨_,rfl,?_,hy⟩⟩
  rw [← hv]
  exact ((hf.keep (k4.mono fun i hi=>hi.2.1)).keep (k5.mono fun i hi=>hi.2.2)).mono fun i _ hi=>hi.1
 rintro ch w3 ⟨rfl,k3,hf⟩
 refine N5 ?_
 refine (b34 (hg1.to k3) rfl (hg2.to k3)).mono ?_
 rintro u' w' ⟨hu,k4,h1,h2⟩
 refine ⟨hu,[.agg al1.toArray,.int .i64 E],⟨_,_,o7 h1 rfl,⟨_,_,P7 (by conv=>(lhs; whnf)) h2,rfl,rfl⟩,rfl⟩,?_⟩
 exact ⟨Keeps.later (k.trans k3) k4 (fun i hi _=>⟨by omega,by omega⟩),.inr ⟨rfl,hf⟩⟩
theorem Gives.toE {P : Program} {f : FuncId} {args : List Value} {w : World} {Ψ : Value → World → Prop} {Φ : List PanicEntry → World → Prop} (h : Gives P f args w Ψ) : GivesE P f args w Ψ Φ:=
 Calls.mono h fun e w' ⟨v,he,hv⟩=>by subst he; exact hv
abbrev J9 (v : Value) (t : T3) (e : Int) : Gh:=⟨fun S w=>v = .tuple #[F4 v,.int .i64 e] ∧ TripV S w (F4 v) t,fun h k=>⟨h.1,h.2.keep k⟩,fun h k=>⟨h.1,h.2.mono k⟩⟩
theorem af8 {v : Value} {t : T3} {e : Int} {S : Nat → Prop} {w : World} (h : (J9 v t e).p S w) : (pr (.ag 9 (F4 v)) (.int .i64 e)).Ok 0 ∧ (pr (.ag 9 (F4 v)) (.int .i64 e)).den (fun _=>0) = v:=⟨bo9 h.2.ok trivial,h.1.symm⟩
theorem bt9 {v : Value} {t : T3} {S : Nat → Prop} {w : World} (h : (J9 v t 0).p S w) : (pr (.ag 9 (F4 v)) (.lit .i64 0)).Ok 0 ∧ (pr (.ag 9 (F4 v)) (.lit .i64 0)).den (fun _=>0) = v:=⟨bo9 h.2.ok trivial,h.1.symm⟩
theorem b12 {S : Nat → Prop} {w : World} : TripV S w (.agg al1.toArray) ⟨0,0,0⟩:=⟨_,_,_,rfl,s8,s8,s8⟩
theorem N4 {S : Nat → Prop} {w : World} {u v : Value} {t : T3} {T : TypeId} (h : (ca3 u T (d8 (fun _=>0) [.ag 9 v])).p S w) (hv : TripV S w v t) : (A4 u t).p S w:=by
 obtain ⟨b,rfl,hs,hB⟩:=h
 rw [U6] at hB
 exact ⟨v,hv.lies,⟨b,0,v.cells.toList.toArray,T,(0,0),rfl,hs,hB,by simp,by rw [List.drop_zero]; exact List.take_of_length_le (Nat.le_refl _)⟩,hv⟩
theorem G7 {S : Nat → Prop} {w : World} {u : Value} {T : TypeId} {cs : List Value} (h : (ca3 u T cs).p S w) : u.oneCell' = true:=by
 obtain ⟨b,rfl,_⟩:=h
 rfl
noncomputable def ac0 (p q : T3) : Int:=if X6 p q = 0 then (if T3.Same p q then 61 else 0) else X6 p q
noncomputable def a06 (p q : T3) : T3:=if ac0 p q = 0 then (p.cross q).normal else ⟨0,0,0⟩
theorem cl8 {p q : T3} (h : X6 p q = 0) : D5 p = 0 ∧ D5 q = 0:=by
 unfold X6 at h
 split at h
 ·exact ⟨‹_›,h⟩
 exact absurd h ‹_›
theorem c98 {S : Nat → Prop} {w : World} {u1 u2 : Value} {p q : T3} {m n k : Nat} (ht : Tab w) (hS : Up S w) (o1 : u1.oneCell' = true) (o2 : u2.oneCell' = true) (h1 : (A4 u1 p).p S w) (h2 : (A4 u2 q).p S w) (hm : tl p m) (hn : tl q n) (hmn : 2 * (m + n + 1) + 1 ≤ 3344) (hk : tl (p.cross q).normal k) (hk2 : k ≤ 3344) :
  Gives prog 53 [.func (.func 137) #[] #[u1,u2]] w fun v' w'=>Ext w w' ∧ (J9 v' (a06 p q) (ac0 p q)).p S w':=by
 have key : ∀ S' w',Up S' w' → Ext w w' → (∀ k,S' k → S k) → (∀ k,k < w.heap.size → S k → S' k) → GivesE prog 137 [u1,u2] w' (fun v w''=>Ext w' w'' ∧ TripV S' w'' v (a06 p q) ∧ ac0 p q = 0) fun ch w''=>ch = J2 (ac0 p q) ∧ Ext w' w'' ∧ ¬ ac0 p q = 0:=by
  intro S' w' hS' k' _ hs'
  have g1:=(A4 u1 p).keep ((A4 u1 p).mono h1 hs') (.of k')
  have g2:=(A4 u2 q).keep ((A4 u2 q).mono h2 hs') (.of k')
  by_cases hb : X6 p q = 0
  ·obtain ⟨b1,b2⟩:=cl8 hb
   by_cases hs : T3.Same p q
   ·have e : ac0 p q = 61:=by unfold ac0; rw [if_pos hb,if_pos hs]
    exact (dg2 (ht.to k') hS' o1 o2 g1 g2 hm hn hmn b1 b2 hs).mono (fun _ _ h=>h.elim) fun ch w'' h=>⟨by rw [e]; exact h.1,h.2,by rw [e]; decide⟩
   have e : ac0 p q = 0:=by unfold ac0; rw [if_pos hb,if_neg hs]
   have e2 : a06 p q = (p.cross q).normal:=by unfold a06; rw [if_pos e]
   exact Gives.toE ((c39 (ht.to k') hS' o1 o2 g1 g2 hm hn hmn hk hk2 b1 b2 hs).mono fun v w'' h=>⟨h.1,by rw [e2]; exact h.2,e⟩)
  have e : ac0 p q = X6 p q:=by unfold ac0; rw [if_neg hb]
  exact (c85 (ht.to k') hS' o1 o2 g1 g2 (D4 hm) (D4 hn) hb).mono (fun _ _ h=>h.elim) fun ch w'' h=>⟨by rw [e]; exact h.1,h.2,by rw [e]; exact hb⟩
 refine (ax8 (F:=137) (cap:=[u1,u2]) hS key).mono ?_
 rintro v' w' ⟨k',⟨x,rfl,h,e⟩ | ⟨rfl,e⟩⟩
 ·exact ⟨k',by rw [e]; rfl,h⟩
 exact ⟨k',rfl,by unfold a06; rw [if_neg e]; exact b12⟩
theorem dm7 {S : Nat → Prop} {w : World} {vp vq : Value} {p q : T3} {m n k : Nat} (ht : Tab w) (hS : Up S w) (hp : TripV S w vp p) (hq : TripV S w vq q) (hm : tl p m) (hn : tl q n) (hmn : 2 * (m + n + 1) + 1 ≤ 3344) (hk : tl (p.cross q).normal k) (hk2 : k ≤ 3344) :
  Gives prog 88 [vp,vq] w fun v' w'=>Ext w w' ∧ (J9 v' (a06 p q) (ac0 p q)).p S w':=by
 refine p7 (E:=env) (S0:=S) (G:=((j6 vp (p)).and (j6 vq (q)))) (l:=[.one (.ag 9 vp),.one (.ag 9 vq)]) func88 rfl rfl rfl ⟨hp.ok,hq.ok,trivial⟩ rfl ⟨hp,hq⟩ ?_
 refine n7 (I0 0 55 ([.ag 9 vp]) (fun u1=>?_))
 refine n7 (I0 1 55 ([.ag 9 vq]) (fun u2=>?_))
 refine O3 (fun x0=>pr (.ag 9 (F4 x0)) (.int .i64 ((ac0 p q)))) (fun x0=>J9 x0 ((a06 p q)) ((ac0 p q))) (fun _ _ _ h=>af8 h) (fun β S w hS hs hw hG=>(kx (c98 (ht.to hw) hS (G7 hG.2.1) (G7 hG.1) (N4 hG.2.1 hG.2.2.1) (N4 hG.1 hG.2.2.2) hm hn hmn hk hk2))) ?_
 intro r
 exact p9 (.tuple #[F4 r,.int .i64 (ac0 p q)]) rfl (fun S w hs hw hG=>⟨hw,rfl,hG.1.2.mono fun k _ hk=>hs k hk⟩)
theorem b87 {w : World} {g1 g2 : Nat} : GivesD prog 142 [.pointer (some ⟨g1,0,none⟩),.pointer (some ⟨g2,0,none⟩)] .returning w fun u' w'=>u' = .returning ∧ w' = w:=by
 refine G6 func142 rfl rfl rfl rfl rfl (.inl ⟨rfl,rfl,rfl⟩) ?_
 repeat (first | refine R0 rfl ?_ | refine wW ?_ | refine wp_skip ?_ | refine wp_cond_false rfl ?_)
 exact ⟨[],rfl,rfl,rfl⟩
theorem b13 {w : World} {g1 g2 : Nat} {e1 e : Value} {E : Int} (h1 : Blk w g1 4 [e1]) (h2 : Blk w g2 56 [e]) :
  GivesD prog 142 [.pointer (some ⟨g1,0,none⟩),.pointer (some ⟨g2,0,none⟩)] (.panicking (J2 E)) w fun u' w'=>settle u' = .returning ∧
   Keeps (fun k=>k ≠ g1 ∧ k ≠ g2) w w' ∧ Blk w' g1 4 [.bool false] ∧ Blk w' g2 56 [.int .i64 E]:=by
 have hne : g1 ≠ g2:=h1.ne h2 (by decide)
 refine G6 func142 rfl rfl rfl rfl rfl (.inr ⟨_,rfl,rfl,rfl⟩) ?_
 repeat (first | refine ab9 rfl ?_ | refine aq0 rfl ?_ | refine wW ?_ | refine D6 rfl rfl ?_ | refine wp_cond_true rfl ?_)
 refine r5 (cs:=[.int .i64 0]) rfl ?_
 intro w1 g3 k1 hg3 hgs3
 have hl1:=h1.lt
 have hl2:=h2.lt
 refine A5 (us:=[.int .i64 E]) rfl (by conv=>(lhs; whnf)) rfl rfl hg3 rfl (fun v hv=>by rw [List.mem_singleton.1 hv]; rfl) ?_
 intro w2 k2 hg32
 have k : Ext w w2:=Keeps.past k1 k2 hgs3
 have hg33:=hg32
 repeat (first | refine aw4 rfl ?_ | refine wW ?_ | refine d7 ?_ | refine wp_skip ?_ | refine wp_cond_false rfl ?_)
 have hl3:=hg32.lt
 refine am3 (R:=OneW g1 4 [e1] [.bool false]) 4 OneW.trans OneW.drew (by kernel_rfl) (by kernel_rfl) ?_
 apply F1
 ·intro x w1 k1 hd
  refine cc6 rfl ?_
  refine d6 ?_
  exact Q4 OneW.refl
 apply F1
 ·intro x w1 k1 hd
  refine l6 rfl ?_
  refine d6 ?_
  exact Q4 OneW.refl
 apply F1
 ·intro x w1 k1 hd
  refine i1 rfl (hg33.wr k1.1 (by omega)) rfl ?_
  refine d6 ?_
  exact Q4 OneW.refl
 refine F1 (e:=EntR.of (fun v w=>Blk w g1 4 [.bool false]) (fun v w w' h k=>k.2.2 h)) ?_ ?_
 ·intro x w1 k1 hd
  rcases k1.2.1 (.inl (h1.to k)) with hgx | hgx
  ·refine L6 (u:=.bool false) rfl rfl hgx (show 0 < 1 by decide) rfl ?_
   intro w12 k12 hg12
   exact d6 (U7 (OneW.wrote k12 hg12) hg12)
  refine L6 (u:=.bool false) rfl rfl hgx (show 0 < 1 by decide) rfl ?_
  intro w12 k12 hg12
  exact d6 (U7 (OneW.wrote k12 hg12) hg12)
 refine a19 (a64 ?_)
 intro x w12 k12 hall
 have h14 : Blk w12 g1 4 [.bool false]:=hall.1
 refine L6 (u:=.int .i64 E) rfl rfl ((h2.to k).wr k12.1 (fun e=>hne e.symm)) (show 0 < 1 by decide) rfl ?_
 intro w5 k5 h25
 repeat (first | refine d6 ?_)
 refine ⟨[],rfl,rfl,?_,h14.wr k5 hne,h25⟩
 exact ((Keeps.of k).trans (k12.1.mono fun i hi=>hi.1)).trans (k5.mono fun i hi=>hi.2)
theorem ay2 {S : Nat → Prop} {w : World} {F : FuncId} [ci : CallI prog F] {cap : List Value} {b : Bool} {E : Int} {Y Z : Prop} (hS : Up S w)
  (h : ∀ S' w',Up S' w' → Ext w w' → (∀ k,S' k → S k) → (∀ k,k < w.heap.size → S k → S' k) → GivesE prog F cap w' (fun v w''=>Ext w' w'' ∧ v = .bool b ∧ Y) fun ch w''=>ch = J2 E ∧ Ext w' w'' ∧ Z) :
  Gives prog 91 [.func (.func F) #[] cap.toArray] w fun v' w'=>Ext w w' ∧ ((v' = .tuple #[.bool b,.int .i64 0] ∧ Y) ∨ (v' = .tuple #[.bool false,.int .i64 E] ∧ Z)):=by
 refine R2 func91 rfl rfl rfl ?_
 refine a55 ?_
 repeat (first | refine aa7 ?_)
 refine r5 (cs:=[.bool false]) rfl ?_
 intro w1 g1 k1 hg1 hgs1
 skip
 refine r5 (cs:=[.int .i64 0]) rfl ?_
 intro w2 g2 k2 hg2 hgs2
 have hgl:=hg1.lt
 have hgl2:=hg2.lt
 replace hg1:=hg1.to k2
 have k:=k1.trans k2
 have hk1:=k1.size
 have hk2:=k2.size
 have hS2 : Up (fun k=>S k ∧ k ≠ g1 ∧ k ≠ g2) w2:=fun i hi=>⟨hS i (by omega),by omega,by omega⟩
 have hc:=h (fun k=>S k ∧ k ≠ g1 ∧ k ≠ g2) w2 hS2 k (fun _ h=>h.1) (fun i hi hs=>⟨hs,by omega,by omega⟩)
 repeat refine wW ?_
 refine W6 ?_
 refine a39 ?_ (fun e a ρ w hm hq=>aq6 hm hq)
 repeat refine wW ?_
 refine at3 (first:=[]) (cap:=cap) rfl hc rfl ?_ ?_
 ·rintro v3 w3 ⟨k3,rfl,hy⟩
  skip
  refine L6 (u:=.bool b) rfl rfl (hg1.to k3) (show 0 < 1 by decide) rfl ?_
  intro w4 k4 hg4
  have hg24:=(hg2.to k3).wr k4 (by omega)
  refine L6 (u:=.int .i64 0) rfl rfl hg24 (show 0 < 1 by decide) rfl ?_
  intro w5 k5 hg5
  have hg45:=hg4.wr k5 (by omega)
  repeat refine wW ?_
  refine b87.mono ?_
  rintro u' w' ⟨rfl,rfl⟩
  refine ⟨rfl,[.bool b,.int .i64 0],⟨_,_,P7 (by conv=>(lhs; whnf)) hg45,⟨_,_,P7 (by conv=>(lhs; whnf)) hg5,rfl,rfl⟩,rfl⟩,?_⟩
  exact ⟨((Keeps.past (k.trans k3) k4 (by omega)).past k5 (by omega)),.inl ⟨rfl,hy⟩⟩
 rintro ch w3 ⟨rfl,k3,hf⟩
 refine N5 ?_
 refine (b13 (hg1.to k3) (hg2.to k3)).mono ?_
 rintro u' w' ⟨hu,k4,h1,h2⟩
 refine ⟨hu,[.bool false,.int .i64 E],⟨_,_,P7 (by conv=>(lhs; whnf)) h1,⟨_,_,P7 (by conv=>(lhs; whnf)) h2,rfl,rfl⟩,rfl⟩,?_⟩
 exact ⟨Keeps.later (k.trans k3) k4 (fun i hi _=>⟨by omega,by omega⟩),.inr ⟨rfl,hf⟩⟩
def OnP (p q : T3) : Prop:=X6 p q = 0 ∧ p.dot q = 0
theorem d18 {S : Nat → Prop} {w : World} {u1 u2 : Value} {p q : T3} {m n : Nat} (ht : Tab w) (hS : Up S w) (o1 : u1.oneCell' = true) (o2 : u2.oneCell' = true) (h1 : (A4 u1 p).p S w) (h2 : (A4 u2 q).p S w) (hm : tl p m) (hn : tl q n) (hmn : 3 * (m + n + 1) + 1 ≤ 3344) :
  Gives prog 91 [.func (.func 92) #[] #[u1,u2]] w fun v' w'=>Ext w w' ∧ v' = .tuple #[.bool (tst (OnP p q)),.int .i64 (X6 p q)]:=by
 have key : ∀ S' w',Up S' w' → Ext w w' → (∀ k,S' k → S k) → (∀ k,k < w.heap.size → S k → S' k) → GivesE prog 92 [u1,u2] w' (fun v w''=>Ext w' w'' ∧ v = .bool (tst (OnP p q)) ∧ X6 p q = 0) fun ch w''=>ch = J2 (X6 p q) ∧ Ext w' w'' ∧ ¬ X6 p q = 0:=by
  intro S' w' hS' k' _ hs'
  have g1:=(A4 u1 p).keep ((A4 u1 p).mono h1 hs') (.of k')
  have g2:=(A4 u2 q).keep ((A4 u2 q).mono h2 hs') (.of k')
  by_cases hb : X6 p q = 0
  ·obtain ⟨b1,b2⟩:=cl8 hb
   exact Gives.toE ((d39 (ht.to k') hS' o1 o2 g1 g2 hm hn hmn b1 b2).mono fun v w'' h=>⟨h.2,by rw [h.1]; congr 1; exact congrArg tst (propext ⟨fun e=>⟨hb,e⟩,fun e=>e.2⟩),hb⟩)
  exact (d37 (ht.to k') hS' o1 o2 g1 g2 (D4 hm) (D4 hn) hb).mono (fun _ _ h=>h.elim) fun ch w'' h=>⟨h.1,h.2,hb⟩
 refine (ay2 (F:=92) (cap:=[u1,u2]) hS key).mono ?_
 rintro v' w' ⟨k',⟨rfl,e⟩ | ⟨rfl,e⟩⟩
 ·exact ⟨k',by rw [e]⟩
 exact ⟨k',by rw [j8 fun h : OnP p q=>e h.1]⟩
theorem cm3 {S : Nat → Prop} {w : World} {vp vq : Value} {p q : T3} {m n : Nat} (ht : Tab w) (hS : Up S w) (hp : TripV S w vp p) (hq : TripV S w vq q) (hm : tl p m) (hn : tl q n) (hmn : 3 * (m + n + 1) + 1 ≤ 3344) :
  Gives prog 31 [vp,vq] w fun v' w'=>v' = .tuple #[.bool (tst (OnP p q)),.int .i64 (X6 p q)] ∧ Ext w w':=by
 refine p7 (E:=env) (S0:=S) (G:=((j6 vp (p)).and (j6 vq (q)))) (l:=[.one (.ag 9 vp),.one (.ag 9 vq)]) func31 rfl rfl rfl ⟨hp.ok,hq.ok,trivial⟩ rfl ⟨hp,hq⟩ ?_
 refine n7 (I0 0 55 ([.ag 9 vp]) (fun u1=>?_))
 refine n7 (I0 1 55 ([.ag 9 vq]) (fun u2=>?_))
 refine z7 (pr (.tp (OnP p q)) (.int .i64 (X6 p q))) rfl (fun β S w hS hs hw hG=>(kx ((d18 (ht.to hw) hS (G7 hG.2.1) (G7 hG.1) (N4 hG.2.1 hG.2.2.1) (N4 hG.1 hG.2.2.2) hm hn hmn).mono fun _ _ h=>⟨h.2,h.1⟩))) ?_
 exact p9 (.tuple #[.bool (tst (OnP p q)),.int .i64 (X6 p q)]) rfl (fun S w hs hw hG=>⟨rfl,hw⟩)
def T3.at (l : List T3) (i : Nat) : T3:=l.getD i ⟨0,0,0⟩
theorem bo7 {l : List T3} (h : Q6 l = 0) : ∀ t ∈ l,D5 t = 0:=by
 induction l with
 | nil=>intro t ht; cases ht
 | cons a r ih=>
  unfold Q6 at h
  split at h
  ·intro t ht
   rcases List.mem_cons.1 ht with rfl | ht
   ·assumption
   exact ih h t ht
  exact absurd h ‹_›
theorem cc3 {l : List T3} (h : ¬ Q6 l = 0) : ∃ n,n < l.length ∧ D5 (l.getD n ⟨0,0,0⟩) = Q6 l ∧ ∀ i,i < n → D5 (l.getD i ⟨0,0,0⟩) = 0:=by
 induction l with
 | nil=>exact absurd rfl h
 | cons a r ih=>
  unfold Q6 at h ⊢
  split
  ·rename_i e
   rw [if_pos e] at h
   obtain ⟨n,h1,h2,h3⟩:=ih h
   refine ⟨n + 1,by simpa using h1,by simpa using h2,fun i hi=>?_⟩
   cases i with
   | zero=>simpa using e
   | succ i=>simpa using h3 i (by omega)
  exact ⟨0,by simp,by simp,fun i hi=>absurd hi (Nat.not_lt_zero _)⟩
theorem cf6 {S : Nat → Prop} {w : World} {v : Value} {l : List T3} (ht : Tab w) (hS : Up S w) (h : SeqV true 9 ad5 S w v l) (hl : ∀ t ∈ l,tl t 1000000) (hk : ¬ Q6 l = 0) : Pan prog 56 [v] w (J2 (Q6 l)):=by
 obtain ⟨n,h1,h2,h3⟩:=cc3 hk
 rw [← h2]
 exact at4 ht hS h hl h1 (by rw [h2]; exact hk) h3
theorem bz2 {S : Nat → Prop} {w : World} {vp vq vr : Value} {p q r : T3} {m : Nat} (hS : Up S w) (hp : TripV S w vp p) (hq : TripV S w vq q) (hr : TripV S w vr r) (hm : tl p m) (hn : tl q m) (hk : tl r m) (hmm : 3 * (2 * (m + m) + 1 + m + 1) + 1 ≤ 3344)
  (h1 : ¬ T3.Same p q) (h2 : ¬ T3.Same p r) (h3 : ¬ T3.Same q r) (h4 : T3.Flat p q r) :
  Gives prog 140 [vp,vq,vr] w fun v' w'=>v' = .tuple #[] ∧ Ext w w':=by
 refine p7 (E:=env) (S0:=S) (G:=((j6 vp (p)).and ((j6 vq (q)).and (j6 vr (r))))) (l:=[.one (.ag 9 vp),.one (.ag 9 vq),.one (.ag 9 vr)]) func140 rfl rfl rfl ⟨hp.ok,hq.ok,hr.ok,trivial⟩ rfl ⟨hp,hq,hr⟩ ?_
 refine z7 (.one (.tp (T3.Same p q))) rfl (fun β S w hS hs hw hG=>(kx (W9 hS hG.1 hG.2.1 hm hn (by omega)))) ?_
 refine au6 (p:=T3.Same p q) 9 ⟨b9,hS,j5⟩ (by kernel_rfl) (by kernel_rfl) (h1) ?_
 refine z7 (.one (.tp (T3.Same p r))) rfl (fun β S w hS hs hw hG=>(kx (W9 hS hG.1 hG.2.2 hm hk (by omega)))) ?_
 refine au6 (p:=T3.Same p r) 14 ⟨b9,hS,j5⟩ (by kernel_rfl) (by kernel_rfl) (h2) ?_
 refine z7 (.one (.tp (T3.Same q r))) rfl (fun β S w hS hs hw hG=>(kx (W9 hS hG.2.1 hG.2.2 hn hk (by omega)))) ?_
 refine au6 (p:=T3.Same q r) 19 ⟨b9,hS,j5⟩ (by kernel_rfl) (by kernel_rfl) (h3) ?_
 refine z7 (.one (.tp (T3.Flat p q r))) rfl (fun β S w hS hs hw hG=>(kx (a56 hS hG.1 hG.2.1 hG.2.2 hm hn hk hmm))) ?_
 refine ai1 (p:=¬ T3.Flat p q r) (fun h=>h h4) ?_
 exact p9 (.tuple #[]) rfl (fun S w hs hw hG=>⟨rfl,hw⟩)
theorem dd4 {S : Nat → Prop} {w : World} {vp vq vr : Value} {p q r : T3} {m : Nat} (hS : Up S w) (hp : TripV S w vp p) (hq : TripV S w vq q) (hr : TripV S w vr r) (hm : tl p m) (hn : tl q m) (hk : tl r m) (hmm : 3 * (2 * (m + m) + 1 + m + 1) + 1 ≤ 3344)
  (hx : T3.Same p q ∨ T3.Same p r ∨ T3.Same q r ∨ ¬ T3.Flat p q r) :
  Pan prog 140 [vp,vq,vr] w (J2 61):=by
 refine J8 (E:=env) (S0:=S) (G:=((j6 vp (p)).and ((j6 vq (q)).and (j6 vr (r))))) (l:=[.one (.ag 9 vp),.one (.ag 9 vq),.one (.ag 9 vr)]) func140 rfl rfl rfl ⟨hp.ok,hq.ok,hr.ok,trivial⟩ rfl ⟨hp,hq,hr⟩ ?_
 refine z7 (.one (.tp (T3.Same p q))) rfl (fun β S w hS hs hw hG=>(kx (W9 hS hG.1 hG.2.1 hm hn (by omega)))) ?_
 refine S3 (p:=T3.Same p q) 9 (fun g1=>?_) (fun g1=>?_)
 ·exact av8 (fun β S w hS hs hw hG=>(kx (L5 (X4 (e:=61)) hw)))
 refine z7 (.one (.tp (T3.Same p r))) rfl (fun β S w hS hs hw hG=>(kx (W9 hS hG.1 hG.2.2 hm hk (by omega)))) ?_
 refine S3 (p:=T3.Same p r) 14 (fun g2=>?_) (fun g2=>?_)
 ·exact av8 (fun β S w hS hs hw hG=>(kx (L5 (X4 (e:=61)) hw)))
 refine z7 (.one (.tp (T3.Same q r))) rfl (fun β S w hS hs hw hG=>(kx (W9 hS hG.2.1 hG.2.2 hn hk (by omega)))) ?_
 refine S3 (p:=T3.Same q r) 19 (fun g3=>?_) (fun g3=>?_)
 ·exact av8 (fun β S w hS hs hw hG=>(kx (L5 (X4 (e:=61)) hw)))
 refine z7 (.one (.tp (T3.Flat p q r))) rfl (fun β S w hS hs hw hG=>(kx (a56 hS hG.1 hG.2.1 hG.2.2 hm hn hk hmm))) ?_
 refine ad3 (p:=¬ T3.Flat p q r) (hx.resolve_left g1 |>.resolve_left g2 |>.resolve_left g3) ?_
 exact av8 (fun β S w hS hs hw hG=>(kx (L5 (X4 (e:=61)) hw)))
theorem cf4 {S : Nat → Prop} {w : World} {u : Value} {p : T3} {m k : Nat} (ht : Tab w) (hS : Up S w) (o : u.oneCell' = true) (h : (A4 u p).p S w) (hm : tl p m) (hmm : m ≤ 1000000) (hk : tl p.normal k) (hk2 : k ≤ 3344) (hp0 : D5 p = 0) (hnn : ¬ p.None) :
  Gives prog 96 [u] w fun v' w'=>Ext w w' ∧ TripV S w' v' p.normal:=by
 refine p7 (E:=env) (S0:=S) (G:=(A4 u p)) (l:=[.one (.val u)]) func96 rfl rfl rfl ⟨o,trivial⟩ rfl h ?_
 refine n7 (p8 u 55 9 true (fun x0=>.one (.ag 9 x0)) (fun x0=>j6 x0 (p)) (fun β S w hM hw hG=>let ⟨y,e1,e2,e3⟩:=hG; ⟨S,y,e1,e2,e3⟩) ?_)
 intro x
 refine ac5 (.und) rfl (fun β S w hS hM hs hw hG=>(kx (M2 (ht.to hw) (A8 hS) (H2 (l:=[p]) 1 55 [x] hM (by kernel_rfl) ⟨rfl,fun y hy=>by rw [List.mem_singleton.1 hy]; exact hG.1.lies,fun i t y h1 h2=>by cases i with | zero=>(simp at h1 h2; subst h1 h2; exact hG.1) | succ i=>simp at h1⟩ (show 1 ≤ maxLen by decide)) (fun t ht=>by rw [List.mem_singleton.1 ht]; exact cp1 hm hmm) (fun t ht=>by rw [List.mem_singleton.1 ht]; exact hp0)))) ?_
 refine n7 (p8 u 55 9 true (fun x0=>.one (.ag 9 x0)) (fun x0=>j6 x0 (p)) (fun β S w hM hw hG=>let ⟨y,e1,e2,e3⟩:=hG.2; ⟨S,y,e1,e2,e3⟩) ?_)
 intro y
 refine E9 (fun x0=>.one (.ag 9 x0)) (fun x0=>j6 x0 (p.normal)) (fun β S w hS hs hw hG=>(kx (af1 hS hG.1 hnn (D4 hm) (au2 hk hk2)))) ?_
 intro r
 exact p9 (r) rfl (fun S w hs hw hG=>⟨hw,hG.1.mono fun k _ hk=>hs k hk⟩)
theorem dw0 {v : Value} {q : Rat} {S : Nat → Prop} {w : World} (h : (bG (fun x=>qG x q) true v).p S w) : (pr (.ag 4 (R5 v 0)) (.bb true)).Ok 0 ∧ (pr (.ag 4 (R5 v 0)) (.bb true)).den (fun _=>0) = v:=⟨bo9 h.2.ok trivial,h.1.symm⟩
theorem QV.lies {S : Nat → Prop} {w : World} {v : Value} {q : Rat} (h : QV S w v q) : U2 true 4 v:=by
 obtain ⟨m,b,rfl,_⟩:=h
 exact a44 [_,_,_,_]
abbrev qF (x : Value) (q : Rat) : Gh:=qG x q
abbrev qsG (v : Value) (l : List Rat) : Gh:=d16 true 4 qF v l
theorem getD_at {l : List Rat} {j : Nat} (h : j < l.length) : l[j]? = some (l.getD j 0):=by rw [List.getD_eq_getElem?_getD,List.getElem?_eq_getElem h]; rfl
theorem ch4 {q : Rat} : q.num.sign = 0 ↔ q = 0:=by rw [Int.sign_eq_zero_iff_zero]; exact Rat.num_eq_zero
theorem df5 {S : Nat → Prop} {w : World} {v : Value} {l : List Rat} {p : Nat} (hS : Up S w) (h : SeqV true 4 qF S w v l) (hp : R6 ap7 l 0 = (p : Int)) (hpl : p < l.length) (hp0 : ap7 (l.getD p 0)) :
  Gives prog 110 [v] w fun v' w'=>Ext w w' ∧ (bG (fun x=>qG x (l.getD p 0)) true v').p S w':=by
 have hmx:=h.len_le
 unfold maxLen at hmx
 refine p7 (E:=env) (S0:=S) (G:=(qsG v l)) (l:=[.one (.sl v l.length)]) func110 rfl rfl rfl ⟨h.sl,trivial⟩ rfl h ?_
 refine ah2 (ι:=Nat) [(3,20)] (fun j=>[(4,.one (.int .i64 (j : Int)))]) (fun _=>[]) (fun j=>(qsG v l)) (fun j=>j ≤ p ∧ R6 ap7 (l.drop j) j = (p : Int)) (fun j=>p - j) (0) ⟨b9,hS,j5⟩ (by kernel_rfl) (by kernel_rfl) (fun β=>(by kernel_rfl)) (fun β=>(by kernel_rfl)) (by kernel_rfl) (⟨Nat.zero_le _,hp⟩) (fun S w hw hG=>⟨B9 rfl,fun p hp=>by cases hp⟩) (fun S w hw hG=>hG) (fun hso j hj=>?_)
 have hlt' : j < l.length:=by omega
 have hx0:=getD_at hlt'
 obtain ⟨d1,d2⟩:=bo2 (p:=ap7) hlt'
 refine ad3 (p:=(j : Int) < (l.length : Int)) (by omega) ?_
 refine n7 (bz6 v l.length (j : Int) 30 4 (fun u0=>atG true 4 (fun x0=>qG x0 ((l.getD j 0))) u0) (by kernel_rfl) ⟨b9,hS,j5⟩ (fun β S w hM hw hG=>hG.el rfl rfl hx0) ?_)
 intro u_1
 refine n7 (bz1 u_1 30 4 true (fun x0=>.one (.ag 4 x0)) (fun x0=>qG x0 ((l.getD j 0))) (by kernel_rfl) ⟨b9,hS,j5⟩ (fun S w hw hG=>hG.1) (fun _ _ _ h=>⟨h.ok,rfl⟩) ?_)
 intro x
 refine z7 (.one (.int .i64 (l.getD j 0).num.sign)) rfl (fun β S w hS hs hw hG=>(kx (da9 hG.1))) ?_
 refine R8 (p:=¬ (l.getD j 0).num.sign = 0) (fun hs=>?_) (fun hs=>?_)
 ·have hn : ap7 (l.getD j 0):=fun e=>hs (ch4.2 e)
  have e : j = p:=by have:=d1 hn; rw [hj.2] at this; omega
  subst e
  refine n7 (bz6 v l.length (j : Int) 30 4 (fun u0=>atG true 4 (fun x0=>qG x0 ((l.getD j 0))) u0) (by kernel_rfl) ⟨b9,hS,j5⟩ (fun β S w hM hw hG=>hG.2.2.el rfl rfl hx0) ?_)
  intro u_2
  refine n7 (bz1 u_2 30 4 true (fun x0=>.one (.ag 4 x0)) (fun x0=>qG x0 ((l.getD j 0))) (by kernel_rfl) ⟨b9,hS,j5⟩ (fun S w hw hG=>hG.1) (fun _ _ _ h=>⟨h.ok,rfl⟩) ?_)
  intro y
  refine ag4 ?_
  exact p9 (.tuple #[y,.bool true]) rfl (fun S w hs hw hG=>⟨hw,rfl,hG.1.mono fun k _ hk=>hs k hk⟩)
 have hn : ¬ ap7 (l.getD j 0):=fun e=>e (ch4.1 (Classical.not_not.1 hs))
 have e : ¬ j = p:=fun e=>hn (by rw [e]; exact hp0)
 refine am2 (ps:=[InR .i64 ((j : Int) + 1)]) (by simp only [O0,InR,and_true]; omega) ?_
 exact Z1 (j + 1) ⟨b9,hS,j5⟩ hso (by kernel_rfl) (by kernel_rfl) (fun β=>(by kernel_rfl)) (fun β=>(by kernel_rfl)) (by kernel_rfl) (⟨by omega,by rw [← d2 hn]; exact hj.2⟩) (by omega) (fun S w hw hG=>⟨B9 rfl,fun p hp=>by cases hp⟩) (fun S w hw hG=>hG.2.2)
def ds6 : Value:=.agg #[.bool false,.slice none 0 0,.bool false,.slice none 0 0]
theorem dc9 {S : Nat → Prop} {w : World} {v : Value} {l : List Rat} (hS : Up S w) (h : SeqV true 4 qF S w v l) (hn : M9 l) :
  Gives prog 110 [v] w fun v' w'=>v' = .tuple #[ds6,.bool false] ∧ Ext w w':=by
 have hmx:=h.len_le
 unfold maxLen at hmx
 refine p7 (E:=env) (S0:=S) (G:=(qsG v l)) (l:=[.one (.sl v l.length)]) func110 rfl rfl rfl ⟨h.sl,trivial⟩ rfl h ?_
 refine ah2 (ι:=Nat) [(3,20)] (fun j=>[(4,.one (.int .i64 (j : Int)))]) (fun _=>[]) (fun j=>(qsG v l)) (fun j=>j ≤ l.length) (fun j=>l.length - j) (0) ⟨b9,hS,j5⟩ (by kernel_rfl) (by kernel_rfl) (fun β=>(by kernel_rfl)) (fun β=>(by kernel_rfl)) (by kernel_rfl) (Nat.zero_le _) (fun S w hw hG=>⟨B9 rfl,fun p hp=>by cases hp⟩) (fun S w hw hG=>hG) (fun hso j hj=>?_)
 refine R8 (p:=(j : Int) < (l.length : Int)) (fun hlt=>?_) (fun hlt=>?_)
 ·have hlt' : j < l.length:=by omega
  have hx0:=getD_at hlt'
  refine n7 (bz6 v l.length (j : Int) 30 4 (fun u0=>atG true 4 (fun x0=>qG x0 ((l.getD j 0))) u0) (by kernel_rfl) ⟨b9,hS,j5⟩ (fun β S w hM hw hG=>hG.el rfl rfl hx0) ?_)
  intro u_1
  refine n7 (bz1 u_1 30 4 true (fun x0=>.one (.ag 4 x0)) (fun x0=>qG x0 ((l.getD j 0))) (by kernel_rfl) ⟨b9,hS,j5⟩ (fun S w hw hG=>hG.1) (fun _ _ _ h=>⟨h.ok,rfl⟩) ?_)
  intro x
  refine z7 (.one (.int .i64 (l.getD j 0).num.sign)) rfl (fun β S w hS hs hw hG=>(kx (da9 hG.1))) ?_
  refine ai1 (p:=¬ (l.getD j 0).num.sign = 0) (fun e=>hn ⟨l.getD j 0,List.mem_of_getElem? hx0,fun g=>e (ch4.2 g)⟩) ?_
  refine am2 (ps:=[InR .i64 ((j : Int) + 1)]) (by simp only [O0,InR,and_true]; omega) ?_
  exact Z1 (j + 1) ⟨b9,hS,j5⟩ hso (by kernel_rfl) (by kernel_rfl) (fun β=>(by kernel_rfl)) (fun β=>(by kernel_rfl)) (by kernel_rfl) (by omega) (by omega) (fun S w hw hG=>⟨B9 rfl,fun p hp=>by cases hp⟩) (fun S w hw hG=>hG.2.2)
 refine ag4 ?_
 exact p9 (.tuple #[ds6,.bool false]) rfl (fun S w hs hw hG=>⟨rfl,hw⟩)
abbrev nzG (v : Value) (n : Nat) : Gh:=⟨fun S w=>y6 S 3 .i64 w v n,fun h k=>h.keep k,fun h k=>h.mono k⟩
theorem cv4 {S : Nat → Prop} {w : World} {v : Value} {q : Rat} (hS : Up S w) (h : QV S w v q) (hl : rl q 1000000) :
  Gives prog 155 [v,.int .i64 40] w fun v' w'=>v' = .bool (tst (aa6 q)) ∧ Ext w w':=by
 obtain ⟨m,b,rfl,hm,hb⟩:=h
 refine p7 (E:=env) (S0:=S) (G:=((nzG m q.num.natAbs).and (nzG b q.den))) (l:=[.agg [.tp (q.num < 0),.val m,.tp ((q.den : Int) < 0),.val b],.one (.lit .i64 40)]) func155 rfl rfl rfl ⟨K0 ⟨trivial,hm.one,trivial,hb.one,trivial⟩,trivial,trivial⟩ rfl ⟨hm,hb⟩ ?_
 refine z7 (.one (.int .i64 (Lib.nDigits q.num.natAbs : Nat))) rfl (fun β S w hS hs hw hG=>(kx (da5 hG.1 (Nat.le_trans hl.1 (by decide))))) ?_
 refine S3 (p:=(40 : Int) < ((Lib.nDigits q.num.natAbs : Nat) : Int)) 11 (fun h4=>?_) (fun h4=>?_)
 ·exact p9 (.bool true) rfl (fun S w hs hw hG=>⟨by rw [l9 (show aa6 q from .inl (by omega))],hw⟩)
 refine z7 (.one (.int .i64 (Lib.nDigits q.den : Nat))) rfl (fun β S w hS hs hw hG=>(kx (da5 hG.2 (Nat.le_trans (show dl q.den ≤ 1000000 from hl.2) (by decide))))) ?_
 exact p9 (.bool (tst ((40 : Int) < ((Lib.nDigits q.den : Nat) : Int)))) rfl (fun S w hs hw hG=>⟨by rw [show aa6 q = ((40 : Int) < ((Lib.nDigits q.den : Nat) : Int)) from propext ⟨fun h=>by rcases h with h | h <;> omega,fun h=>.inr (by omega)⟩],hw⟩)
theorem dn9 {S : Nat → Prop} {w : World} {v : Value} {l : List Rat} (hS : Up S w) (h : SeqV true 4 qF S w v l) (hl : ∀ x ∈ l,rl x 1000000) :
  Gives prog 113 [v] w fun v' w'=>v' = .bool (tst (ak8 l)) ∧ Ext w w':=by
 have hmx:=h.len_le
 unfold maxLen at hmx
 refine p7 (E:=env) (S0:=S) (G:=(qsG v l)) (l:=[.one (.sl v l.length)]) func113 rfl rfl rfl ⟨h.sl,trivial⟩ rfl h ?_
 refine ah2 (ι:=Nat) [(2,14)] (fun j=>[(3,.one (.int .i64 (j : Int)))]) (fun _=>[]) (fun j=>(qsG v l)) (fun j=>j ≤ l.length ∧ ∀ i,i < j → ¬ aa6 (l.getD i 0)) (fun j=>l.length - j) (0) ⟨b9,hS,j5⟩ (by kernel_rfl) (by kernel_rfl) (fun β=>(by kernel_rfl)) (fun β=>(by kernel_rfl)) (by kernel_rfl) (⟨Nat.zero_le _,fun _ h=>absurd h (Nat.not_lt_zero _)⟩) (fun S w hw hG=>⟨B9 rfl,fun p hp=>by cases hp⟩) (fun S w hw hG=>hG) (fun hso j hj=>?_)
 refine R8 (p:=(j : Int) < (l.length : Int)) (fun hlt=>?_) (fun hlt=>?_)
 ·have hlt' : j < l.length:=by omega
  have hx0:=getD_at hlt'
  have hm:=List.mem_of_getElem? hx0
  refine n7 (bz6 v l.length (j : Int) 30 4 (fun u0=>atG true 4 (fun x0=>qG x0 ((l.getD j 0))) u0) (by kernel_rfl) ⟨b9,hS,j5⟩ (fun β S w hM hw hG=>hG.el rfl rfl hx0) ?_)
  intro u_1
  refine n7 (bz1 u_1 30 4 true (fun x0=>.one (.ag 4 x0)) (fun x0=>qG x0 ((l.getD j 0))) (by kernel_rfl) ⟨b9,hS,j5⟩ (fun S w hw hG=>hG.1) (fun _ _ _ h=>⟨h.ok,rfl⟩) ?_)
  intro x
  refine z7 (.one (.tp (aa6 (l.getD j 0)))) rfl (fun β S w hS hs hw hG=>(kx (cv4 hS hG.1 (hl _ hm)))) ?_
  refine R8 (p:=aa6 (l.getD j 0)) (fun hlr=>?_) (fun hlr=>?_)
  ·refine ag4 ?_
   exact p9 (.bool true) rfl (fun S w hs hw hG=>⟨by rw [l9 (show ak8 l from ⟨_,hm,hlr⟩)],hw⟩)
  refine am2 (ps:=[InR .i64 ((j : Int) + 1)]) (by simp only [O0,InR,and_true]; omega) ?_
  exact Z1 (j + 1) ⟨b9,hS,j5⟩ hso (by kernel_rfl) (by kernel_rfl) (fun β=>(by kernel_rfl)) (fun β=>(by kernel_rfl)) (by kernel_rfl) (⟨by omega,fun i hi=>(Nat.lt_or_ge i j).elim (fun h=>hj.2 i h) fun h=>(by have e : i = j:=(by omega); rw [e]; exact hlr)⟩) (by omega) (fun S w hw hG=>⟨B9 rfl,fun p hp=>by cases hp⟩) (fun S w hw hG=>hG.2.2)
 refine ag4 ?_
 exact p9 (.bool false) rfl (fun S w hs hw hG=>⟨by rw [j8 fun g : ak8 l=>(let ⟨x,hx,hr⟩:=g; (by obtain ⟨i,hi,rfl⟩:=List.mem_iff_getElem.1 hx; exact hj.2 i (by omega) (by rw [List.getD_eq_getElem?_getD,List.getElem?_eq_getElem hi]; exact hr)))],hw⟩)
theorem dx0 {α : Type} {g : Bool} {s : Nat} {F : Value → α → Gh} {S : Nat → Prop} {w : World} {vs : List Value} {l : List α} {u : Value} (h : ElsV g s F S w vs l) (hu : At S w u (H7 vs)) (hm : l.length ≤ maxLen) :
  ∃ b k,u = .pointer (some ⟨b,k,none⟩) ∧ SeqV g s F S w (.slice (some ⟨b,k,none⟩) l.length l.length) l:=by
 obtain ⟨b,o,arr,T,fr,h1,h2,h3,h4,h5⟩:=hu
 have hl:=ac1 h.lies
 rw [h.len] at hl
 rw [hl] at h4 h5
 exact ⟨b,o,h1,⟨T,vs,h.len,h.lies,⟨hl,.inr ⟨b,o,l.length,arr,fr,rfl,Nat.le_refl _,hm,h2,h3,h4,h5⟩⟩,h.el⟩⟩
theorem QV.okc {S : Nat → Prop} {w : World} {v : Value} {q : Rat} {m : Nat} (h : QV S w v q) : (Ch.ag 4 v).Ok m:=h.ok
theorem mkRat_one (a : Int) : mkRat (a * (1 : Int).sign) (1 : Int).natAbs = (a : Rat):=by
 rw [show (1 : Int).sign = 1 from rfl,Int.mul_one,show (1 : Int).natAbs = 1 from rfl]
 rw [Rat.mkRat_one]
theorem ad8 {S : Nat → Prop} {w : World} {a : Int} (hS : Up S w) (h0 : -9223372036854775808 ≤ a) (h1 : a ≤ 9223372036854775807) :
  Gives prog 45 [.int .i64 a,.int .i64 1] w fun v' w'=>Ext w w' ∧ QV S w' v' (a : Rat):=by
 have h:=di4 (b:=1) hS h0 h1 (by decide) (by decide) (by decide) (M7 (k:=3) (by omega)) (M7 (k:=3) (by decide))
 rwa [mkRat_one] at h
theorem ct2 {S : Nat → Prop} {w : World} (hS : Up S w) : Gives prog 45 [.int .i64 0,.int .i64 1] w fun v' w'=>Ext w w' ∧ QV S w' v' (0 : Rat):=ad8 (a:=0) hS (by decide) (by decide)
theorem O9 {q : Rat} (h : q ≠ 0) : q.num ≠ 0:=fun e=>h (Rat.num_eq_zero.1 e)
section
variable {c : Cx} {st : St} {G : Gh} {all : List Oper} {K : List HRec → Prop} {acc : List HRec} {ops : List Oper}
noncomputable def hpS (c : Cx) (st : St) (acc : List HRec) (ops : List Oper) (η : Nat → Value) : SV:=match cb4 c.E st.hp (frH st acc η) (opH ops) with | some (s,_)=>s | none=>.und
theorem co9 (p : Value → SV) (Δ : Value → Gh) (hc : c.Ok) (hok : ∀ η,ap1 all st acc ops η = true) (hv : ∀ η,cb4 c.E st.hp (frH st acc η) (opH ops) = some (hpS c st acc ops η,[]))
  (h : ∀ β η S w,Up S w → Mem c.bs st.hp β w → (∀ k,S k → c.S0 k) → Keeps c.K c.w0 w → G.p S w → depsH acc (opH ops).after.toList η S w → ∃ v,(hpS c st acc ops η).den β = v ∧ v = (p v).den (fun _=>0) ∧ (p v).Ok 0 ∧ (Δ v).p S w)
  (k : Hd c st G all K (.spec ((opH ops).dst.getD 0) p Δ :: acc) (ops.drop 1)) : Hd c st G all K acc ops:=by
 refine a69 p Δ hok (fun β η S w F m ty hkn hup hM hS hw hG hd=>?_) k
 obtain ⟨v,h1,h2,h3,h4⟩:=h β η S w hup hM hS hw hG hd
 have hkn2 : ah6 β (max m st.hp.length) (frH st acc η) (ev F) (opH ops).op:=fun x hx s hs=>by
  obtain ⟨e1,e2⟩:=hkn x hx s hs
  exact ⟨e1,e2.le (Nat.le_max_left _ _)⟩
 have he:=hv η
 generalize hpS c st acc ops η = s at he h1
 unfold cb4 at he
 split at he <;> first | (cases he; done) | skip
 rename_i s' vc' hp
 simp only [Option.some.injEq,Prod.mk.injEq] at he
 obtain ⟨rfl,rfl⟩:=he
 have h5:=(bv1 (P:=c.P) (ty:=ty) (Nat.le_max_right m st.hp.length) hc.env hM hkn2 (ah7 hp).1 trivial).1
 exact ⟨v,h1 ▸ h5,h2,h3,h4⟩
end
def cel (v : Value) (o n : Nat) : Value:=.agg ((v.cells.toList.drop o).take n).toArray
theorem ak3 {g : Bool} {n : Nat} {v : Value} {vs : List Value} (h : v.cells.toList = H7 vs) (hl : ∀ x ∈ vs,U2 true n x) {i : Nat} {x : Value} (hx : vs[i]? = some x) : cel v (i * n) n = x:=by
 unfold cel
 rw [h]
 unfold H7
 rw [an6 hl hx]
 have h2:=(hl x (List.mem_of_getElem? hx)).2
 simp only [cond_true] at h2
 rw [h2]
 simp [Value.cells]
abbrev O5 (v : Value) (t : T3) : Gh:=⟨fun S w=>v = (SV.agg [.ag 3 (cel v 0 3),.ag 3 (cel v 3 3),.ag 3 (cel v 6 3)]).den (fun _=>0) ∧ RatV S w (cel v 0 3) t.x ∧ RatV S w (cel v 3 3) t.y ∧ RatV S w (cel v 6 3) t.z,fun h k=>⟨h.1,h.2.1.keep k,h.2.2.1.keep k,h.2.2.2.keep k⟩,fun h k=>⟨h.1,h.2.1.mono k,h.2.2.1.mono k,h.2.2.2.mono k⟩⟩
section
variable {S : Nat → Prop} {w : World} {v : Value} {t : T3}
theorem W5 (h : (O5 v t).p S w) : (SV.agg [.ag 3 (cel v 0 3),.ag 3 (cel v 3 3),.ag 3 (cel v 6 3)]).Ok 0 ∧ (SV.agg [.ag 3 (cel v 0 3),.ag 3 (cel v 3 3),.ag 3 (cel v 6 3)]).den (fun _=>0) = v:=
 ⟨K0 ⟨h.2.1.okc,h.2.2.1.okc,h.2.2.2.okc,trivial⟩,h.1.symm⟩
theorem bn9 (h : TripV S w v t) : (O5 v t).p S w:=by
 obtain ⟨a,b,c,hv,h1,h2,h3⟩:=h
 have hl : ∀ x ∈ [a,b,c],U2 true 3 x:=by
  intro x hx
  simp only [List.mem_cons,List.not_mem_nil,or_false] at hx
  rcases hx with rfl | rfl | rfl
  ·exact h1.lies
  ·exact h2.lies
  exact h3.lies
 have hc : v.cells.toList = H7 [a,b,c]:=by rw [hv]; exact ak5 h1.lies h2.lies h3.lies
 have e1 : cel v 0 3 = a:=ak3 (g:=true) (i:=0) hc hl rfl
 have e2 : cel v 3 3 = b:=ak3 (g:=true) (i:=1) hc hl rfl
 have e3 : cel v 6 3 = c:=ak3 (g:=true) (i:=2) hc hl rfl
 show v = _ ∧ _
 rw [e1,e2,e3]
 exact ⟨hv,h1,h2,h3⟩
end
section
variable {c : Cx} {o : Out} {G : Gh}
end
def fb0 (a : Nat → Int) : Value:=.agg #[.int .i64 (a 0),.int .i64 (a 1),.int .i64 (a 2),.int .i64 (a 3),.int .i64 (a 4),.int .i64 (a 5)]
theorem ca4 {q : Rat} {k : Nat} (h : rl q k) : (U8 q).length ≤ 18 * k + 5:=by
 unfold U8
 have h1:=ar4 q.num
 have h2:=M1 q.num.natAbs (show dl q.num.natAbs ≤ k from h.1)
 have h3:=M1 q.den (show dl q.den ≤ k from h.2)
 rw [List.length_append]
 split
 ·simp; omega
 rw [List.length_cons,Lib.decDigits_length]; omega
theorem dd5 {S : Nat → Prop} {w : World} {s : List UInt8} {q : Rat} (hS : Up S w) (hl : s.length ≤ 14000) (h : s = U8 q) : Gives prog 128 [G5 s] w fun v w'=>Ext w w' ∧ (ad7 v q 0).p S w':=
 (df7 hS (by omega)).mono fun v w' ⟨k,hp⟩=>⟨k,by
  rcases hp with ⟨h1,_⟩ | ⟨_,h1,_⟩ | ⟨_,z',h1,r,e,rfl,ht⟩
  ·omega
  ·exact absurd h (h1 q)
  obtain rfl : q = z':=c90 (h.symm.trans h1)
  rcases ht with ⟨_,rfl,h3⟩ | ⟨h2,_⟩
  ·exact ⟨rfl,h3⟩
  exact absurd (c92 (q:=q) (h ▸ Nat.le_trans hl (by decide))) h2⟩
theorem ao6 {S : Nat → Prop} {w : World} {v : Value} {q : Rat} {n : Nat} (hS : Up S w) (h : QV S w v q) (hq : rl q n) (hn : n ≤ 700) :
  Gives prog 74 [v] w fun v' w'=>Ext w w' ∧ RatV S w' v' q:=by
 have hs:=ca4 hq
 refine p7 (E:=env) (S0:=S) (G:=(qG v (q))) (l:=[.one (.ag 4 v)]) func74 rfl rfl rfl ⟨h.ok,trivial⟩ rfl h ?_
 refine z7 (.one (.str (U8 q))) rfl (fun β S w hS hs hw hG=>(kx (do6 hS hG (m6 hq)))) ?_
 refine O3 (fun x0=>pr (.ag 3 (F4 x0)) (.lit .i64 0)) (fun x0=>ad7 x0 (q) 0) (fun _ _ _ h=>X3 h) (fun β S w hS hs hw hG=>(kx (dd5 (s:=U8 q) hS (by omega) rfl))) ?_
 intro r
 exact p9 (F4 r) rfl (fun S w hs hw hG=>⟨hw,hG.1.2.mono fun k _ hk=>hs k hk⟩)
theorem O4 {S : Nat → Prop} {w : World} {vp : Value} {p : T3} {n : Nat} (hS : Up S w) (hp : QTripV S w vp p) (hq : tl p n) (hn : n ≤ 700) :
  Gives prog 18 [vp] w fun v' w'=>Ext w w' ∧ TripV S w' v' p:=by
 obtain ⟨a,b,c,rfl,ha,hb,hc⟩:=hp
 refine p7 (E:=env) (S0:=S) (G:=((qG a p.x).and ((qG b p.y).and (qG c p.z)))) (l:=[.agg [.ag 4 a,.ag 4 b,.ag 4 c]]) func18 rfl rfl rfl ⟨K0 ⟨ha.okc,hb.okc,hc.okc,trivial⟩,trivial⟩ rfl ⟨ha,hb,hc⟩ ?_
 refine q6 9 ?_
 refine d9 2 ?_
 refine q9 (fun x0=>.one (.ag 3 x0)) (fun x0=>b8 x0 (p.x)) (fun β η S w hS hs hw hG hd=>(kx (ao6 hS hG.1 hq.1 hn))) ?_
 refine d9 2 ?_
 refine q9 (fun x0=>.one (.ag 3 x0)) (fun x0=>b8 x0 (p.y)) (fun β η S w hS hs hw hG hd=>(kx (ao6 hS hG.2.1 hq.2.1 hn))) ?_
 refine d9 2 ?_
 refine q9 (fun x0=>.one (.ag 3 x0)) (fun x0=>b8 x0 (p.z)) (fun β η S w hS hs hw hG hd=>(kx (ao6 hS hG.2.2 hq.2.2 hn))) ?_
 refine o6 [true,true,true] (Gh.nil) (by exact fun _ _ h=>trivial) (fun g η=>(b8 (η 8) (p.z)).and ((b8 (η 5) (p.y)).and ((b8 (η 2) (p.x)).and g))) (fun g η=>(by kernel_rfl)) ?_
 intro η_1
 exact p9 (ax6 (η_1 2) (η_1 5) (η_1 8)) rfl (fun S w hs hw hG=>⟨hw,_,_,_,rfl,hG.2.2.1.mono fun k _ hk=>hs k hk,hG.2.1.mono fun k _ hk=>hs k hk,hG.1.mono fun k _ hk=>hs k hk⟩)
noncomputable def ag1 (z : Int) : Int:=IntKind.u64.wrap z % 9 - 4
theorem bc8 (z : Int) : 0 ≤ IntKind.u64.wrap z:=by
 simp only [IntKind.wrap,IntKind.signed,IntKind.bits]
 exact Int.emod_nonneg _ (by decide)
theorem bz9 (z : Int) : -4 ≤ ag1 z ∧ ag1 z ≤ 4:=by unfold ag1; omega
theorem a92 {S : Nat → Prop} {w : World} {z : Int} (hS : Up S w) :
  Gives prog 13 [.int .i64 z,.int .i64 4] w fun v' w'=>v' = .int .i64 (ag1 z) ∧ Ext w w':=by
 have hz:=bc8 z
 refine p7 (E:=env) (S0:=S) (G:=Gh.nil) (l:=[.one (.int .i64 z),.one (.lit .i64 4)]) func13 rfl rfl rfl ⟨trivial,trivial,trivial⟩ rfl trivial ?_
 refine am2 (ps:=[InR .i64 (IntKind.u64.wrap z % 9 - 4),InR .i64 (IntKind.u64.wrap z % 9),0 ≤ IntKind.u64.wrap z ∧ (0 : Int) < 9]) (by simp only [O0,InR,and_true]; omega) ?_
 exact p9 (.int .i64 (IntKind.u64.wrap z % 9 - 4)) rfl (fun S w hs hw hG=>⟨rfl,hw⟩)
noncomputable def as5 (a b c : Int) : Int:=if a = 0 ∧ b = 0 ∧ c = 0 then 1 else c
noncomputable def dt5 (a b c : Int) : T3:=⟨(a : Rat),(b : Rat),((as5 a b c : Int) : Rat)⟩
abbrev I63 (z : Int) : Prop:=-9223372036854775808 ≤ z ∧ z ≤ 9223372036854775807
theorem dl0 {a b c : Int} (h : I63 c) : I63 (as5 a b c):=by unfold as5; split <;> omega
theorem dk0 {S : Nat → Prop} {w : World} {a b c : Int} (hS : Up S w) (ha : I63 a) (hb : I63 b) (hc : I63 c) :
  Gives prog 12 [.int .i64 a,.int .i64 b,.int .i64 c] w fun v' w'=>Ext w w' ∧ QTripV S w' v' (dt5 a b c):=by
 have hc2:=dl0 (a:=a) (b:=b) hc
 refine p7 (E:=env) (S0:=S) (G:=Gh.nil) (l:=[.one (.int .i64 a),.one (.int .i64 b),.one (.int .i64 c)]) func12 rfl rfl rfl ⟨trivial,trivial,trivial,trivial⟩ rfl trivial ?_
 refine ce8 (ι:=Int) 0 1 [(2,2),(7,16)] (fun d=>[(2,.one (.int .i64 d))]) (fun _=>[]) (fun d=>Gh.nil) (fun d=>d = as5 a b c) ⟨b9,hS,j5⟩ (by kernel_rfl) (by kernel_rfl) (fun hso=>?_) (fun d hd=>?_)
 ·refine S3 (p:=a = 0) 9 (fun h1=>?_) (fun h1=>?_)
  ·refine S3 (p:=b = 0) 13 (fun h2=>?_) (fun h2=>?_)
   ·refine R8 (p:=c = 0) (fun h3=>?_) (fun h3=>?_)
    ·exact L2 (1) hso (by unfold as5; rw [if_pos ⟨h1,h2,h3⟩]) (fun S w hw hG=>⟨B9 rfl,fun p hp=>by cases hp⟩) (fun S w hw hG=>hG)
    exact L2 (c) hso (by unfold as5; rw [if_neg (fun h=>h3 h.2.2)]) (fun S w hw hG=>⟨B9 rfl,fun p hp=>by cases hp⟩) (fun S w hw hG=>hG)
   exact L2 (c) hso (by unfold as5; rw [if_neg (fun h=>h2 h.2.1)]) (fun S w hw hG=>⟨B9 rfl,fun p hp=>by cases hp⟩) (fun S w hw hG=>hG)
  exact L2 (c) hso (by unfold as5; rw [if_neg (fun h=>h1 h.1)]) (fun S w hw hG=>⟨B9 rfl,fun p hp=>by cases hp⟩) (fun S w hw hG=>hG)
 subst hd
 refine E9 (fun x0=>.one (.ag 4 x0)) (fun x0=>qG x0 (((a : Int) : Rat))) (fun β S w hS hs hw hG=>(kx (ad8 hS ha.1 ha.2))) ?_
 intro x
 refine E9 (fun x0=>.one (.ag 4 x0)) (fun x0=>qG x0 (((b : Int) : Rat))) (fun β S w hS hs hw hG=>(kx (ad8 hS hb.1 hb.2))) ?_
 intro y
 refine E9 (fun x0=>.one (.ag 4 x0)) (fun x0=>qG x0 (((as5 a b c : Int) : Rat))) (fun β S w hS hs hw hG=>(kx (ad8 hS hc2.1 hc2.2))) ?_
 intro z
 exact p9 (cz1 x y z) rfl (fun S w hs hw hG=>⟨hw,_,_,_,rfl,hG.2.2.1.mono fun k _ hk=>hs k hk,hG.2.1.mono fun k _ hk=>hs k hk,hG.1.mono fun k _ hk=>hs k hk⟩)
noncomputable def M8 (a : Nat → Int) : T3:=dt5 (ag1 (a 0)) (ag1 (a 2)) (ag1 (a 4))
theorem cc7 {a : Nat → Int} {m : Nat} : (SV.agg [.int .i64 (a 0),.int .i64 (a 1),.int .i64 (a 2),.int .i64 (a 3),.int .i64 (a 4),.int .i64 (a 5)]).Ok m:=K0 ⟨trivial,trivial,trivial,trivial,trivial,trivial,trivial⟩
theorem a93 (z : Int) : I63 (ag1 z):=by have:=bz9 z; unfold I63; omega
theorem an2 {S : Nat → Prop} {w : World} {a : Nat → Int} (hS : Up S w) :
  Gives prog 29 [fb0 a] w fun v' w'=>Ext w w' ∧ QTripV S w' v' (M8 a):=by
 refine p7 (E:=env) (S0:=S) (G:=Gh.nil) (l:=[.agg [.int .i64 (a 0),.int .i64 (a 1),.int .i64 (a 2),.int .i64 (a 3),.int .i64 (a 4),.int .i64 (a 5)]]) func29 rfl rfl rfl ⟨cc7,trivial⟩ rfl trivial ?_
 refine q6 10 ?_
 refine d9 2 ?_
 refine h_K (.one (.int .i64 (ag1 (a 0)))) (fun η=>(by kernel_rfl)) (U1 rfl) rfl (fun β η S w hS hs hw hG hd=>(kx (a92 hS))) ?_
 refine d9 2 ?_
 refine h_K (.one (.int .i64 (ag1 (a 2)))) (fun η=>(by kernel_rfl)) (U1 rfl) rfl (fun β η S w hS hs hw hG hd=>(kx (a92 hS))) ?_
 refine d9 2 ?_
 refine h_K (.one (.int .i64 (ag1 (a 4)))) (fun η=>(by kernel_rfl)) (U1 rfl) rfl (fun β η S w hS hs hw hG hd=>(kx (a92 hS))) ?_
 refine q9 (fun x0=>.one (.ag 12 x0)) (fun x0=>A9 x0 ((M8 a))) (fun β η S w hS hs hw hG hd=>(kx (dk0 hS (a93 _) (a93 _) (a93 _)))) ?_
 refine o6 [true,true,true,true] (Gh.nil) (by exact fun _ _ h=>trivial) (fun g η=>(A9 (η 9) ((M8 a))).and ((Gh.nil).and ((Gh.nil).and ((Gh.nil).and g)))) (fun g η=>(by kernel_rfl)) ?_
 intro η_1
 exact p9 ((η_1 9)) rfl (fun S w hs hw hG=>⟨hw,hG.1.mono fun k _ hk=>hs k hk⟩)
def Z9 : List Value:=[.bool false,.slice none 0 0,.slice none 0 0,.bool false]
def RatioV (S : Nat → Prop) (w : World) (v : Value) (q : Rat) (p : Prop) : Prop:=∃ x,v = (SV.agg [.ag 3 x,.tp p]).den (fun _=>0) ∧ RatV S w x q
section
variable {S S' : Nat → Prop} {w w' : World} {v : Value} {q : Rat} {p : Prop}
theorem RatioV.keep (h : RatioV S w v q p) (k : Keeps S w w') : RatioV S w' v q p:=let ⟨x,h1,h2⟩:=h; ⟨x,h1,h2.keep k⟩
theorem RatioV.mono (h : RatioV S w v q p) (hs : ∀ k,k < w.heap.size → S k → S' k) : RatioV S' w v q p:=let ⟨x,h1,h2⟩:=h; ⟨x,h1,h2.mono hs⟩
theorem RatioV.ok (h : RatioV S w v q p) : (SV.one (.ag 4 v)).Ok 0:=by
 obtain ⟨x,rfl,h2⟩:=h
 exact ax9 (l:=[.ag 3 x,.tp p]) (K0 (m:=0) ⟨h2.ok,trivial,trivial⟩) rfl
end
theorem bi2 : ∀ v ∈ Z9,v.oneCell' = true:=by
 intro v hv
 simp only [Z9,List.mem_cons,List.not_mem_nil,or_false] at hv
 rcases hv with rfl | rfl | rfl | rfl <;> rfl
theorem b25 {w : World} {g1 g2 : Nat} : GivesD prog 183 [.pointer (some ⟨g1,0,none⟩),.pointer (some ⟨g2,0,none⟩)] .returning w fun u' w'=>u' = .returning ∧ w' = w:=by
 refine G6 func183 rfl rfl rfl rfl rfl (.inl ⟨rfl,rfl,rfl⟩) ?_
 repeat (first | refine R0 rfl ?_ | refine wW ?_ | refine wp_skip ?_ | refine wp_cond_false rfl ?_)
 exact ⟨[],rfl,rfl,rfl⟩
theorem b92 {w : World} {g1 g2 : Nat} {cs1 : List Value} {e : Value} {E : Int} (h1 : Blk w g1 178 cs1) (hl : cs1.length = 4) (h2 : Blk w g2 56 [e]) :
  GivesD prog 183 [.pointer (some ⟨g1,0,none⟩),.pointer (some ⟨g2,0,none⟩)] (.panicking (J2 E)) w fun u' w'=>settle u' = .returning ∧
   Keeps (fun k=>k ≠ g1 ∧ k ≠ g2) w w' ∧ Blk w' g1 178 Z9 ∧ Blk w' g2 56 [.int .i64 E]:=by
 have hne : g1 ≠ g2:=h1.ne h2 (by decide)
 refine G6 func183 rfl rfl rfl rfl rfl (.inr ⟨_,rfl,rfl,rfl⟩) ?_
 repeat (first | refine ab9 rfl ?_ | refine aq0 rfl ?_ | refine wW ?_ | refine D6 rfl rfl ?_ | refine wp_cond_true rfl ?_)
 refine r5 (cs:=[.int .i64 0]) rfl ?_
 intro w1 g3 k1 hg3 hgs3
 have hl1:=h1.lt
 have hl2:=h2.lt
 refine A5 (us:=[.int .i64 E]) rfl (by conv=>(lhs; whnf)) rfl rfl hg3 rfl (fun v hv=>by rw [List.mem_singleton.1 hv]; rfl) ?_
 intro w2 k2 hg32
 repeat (first | refine aw4 rfl ?_ | refine wW ?_ | refine d7 ?_ | refine wp_skip ?_ | refine wp_cond_false rfl ?_)
 refine r5 (cs:=Z9) rfl ?_
 intro w3 g5 k3 hg5 hgs5
 have k : Ext w w3:=(Keeps.past k1 k2 hgs3).trans k3
 have hg33:=hg32.to k3
 have hl3:=hg32.lt
 repeat refine wW ?_
 refine am3 (R:=OneW g1 178 cs1 Z9) 4 OneW.trans OneW.drew (by kernel_rfl) (by kernel_rfl) ?_
 apply F1
 ·intro x w1 k1 hd
  refine o5 rfl (hg5.wr k1.1 (by omega)) rfl ?_
  refine d6 ?_
  exact Q4 OneW.refl
 apply F1
 ·intro x w1 k1 hd
  refine l6 rfl ?_
  refine d6 ?_
  exact Q4 OneW.refl
 apply F1
 ·intro x w1 k1 hd
  refine i1 rfl (hg33.wr k1.1 (by omega)) rfl ?_
  refine d6 ?_
  exact Q4 OneW.refl
 refine F1 (e:=EntR.of (fun v w=>Blk w g1 178 Z9) (fun v w w' h k=>k.2.2 h)) ?_ ?_
 ·intro x w1 k1 hd
  rcases k1.2.1 (.inl (h1.to k)) with hgx | hgx
  ·refine A5 (us:=Z9) rfl (by conv=>(lhs; whnf)) rfl rfl hgx hl bi2 ?_
   intro w12 k12 hg12
   exact d6 (U7 (OneW.wrote k12 hg12) hg12)
  refine A5 (us:=Z9) rfl (by conv=>(lhs; whnf)) rfl rfl hgx rfl bi2 ?_
  intro w12 k12 hg12
  exact d6 (U7 (OneW.wrote k12 hg12) hg12)
 refine a19 (a64 ?_)
 intro x w12 k12 hall
 have h14 : Blk w12 g1 178 Z9:=hall.1
 refine L6 (u:=.int .i64 E) rfl rfl ((h2.to k).wr k12.1 (fun e=>hne e.symm)) (show 0 < 1 by decide) rfl ?_
 intro w5 k5 h25
 repeat (first | refine d6 ?_)
 refine ⟨[],rfl,rfl,?_,h14.wr k5 hne,h25⟩
 exact ((Keeps.of k).trans (k12.1.mono fun i hi=>hi.1)).trans (k5.mono fun i hi=>hi.2)
theorem bh0 {S : Nat → Prop} {w : World} {F : FuncId} [ci : CallI prog F] {cap : List Value} {t : Rat} {p : Prop} {E : Int} {Y Z : Prop} (hS : Up S w)
  (h : ∀ S' w',Up S' w' → Ext w w' → (∀ k,S' k → S k) → (∀ k,k < w.heap.size → S k → S' k) → GivesE prog F cap w' (fun v w''=>Ext w' w'' ∧ RatioV S' w'' v t p ∧ Y) fun ch w''=>ch = J2 E ∧ Ext w' w'' ∧ Z) :
  Gives prog 138 [.func (.func F) #[] cap.toArray] w fun v' w'=>Ext w w' ∧ ((∃ x,v' = .tuple #[x,.int .i64 0] ∧ RatioV S w' x t p ∧ Y) ∨ (v' = .tuple #[.agg Z9.toArray,.int .i64 E] ∧ Z)):=by
 refine R2 func138 rfl rfl rfl ?_
 refine a55 ?_
 repeat (first | refine aa7 ?_)
 refine r5 (cs:=Z9) rfl ?_
 intro w1 g1 k1 hg1 hgs1
 skip
 refine r5 (cs:=[.int .i64 0]) rfl ?_
 intro w2 g2 k2 hg2 hgs2
 have hgl:=hg1.lt
 have hgl2:=hg2.lt
 replace hg1:=hg1.to k2
 have k:=k1.trans k2
 have hk1:=k1.size
 have hk2:=k2.size
 have hS2 : Up (fun k=>S k ∧ k ≠ g1 ∧ k ≠ g2) w2:=fun i hi=>⟨hS i (by omega),by omega,by omega⟩
 have hc:=h (fun k=>S k ∧ k ≠ g1 ∧ k ≠ g2) w2 hS2 k (fun _ h=>h.1) (fun i hi hs=>⟨hs,by omega,by omega⟩)
 repeat refine wW ?_
 refine W6 ?_
 refine a39 ?_ (fun e a ρ w hm hq=>aq6 hm hq)
 repeat refine wW ?_
 refine at3 (first:=[]) (cap:=cap) rfl hc rfl ?_ ?_
 ·rintro v3 w3 ⟨k3,hf,hy⟩
  obtain ⟨us,hv,hul,hu1⟩:=hf.ok
  skip
  refine A5 (us:=us) rfl (by conv=>(lhs; whnf)) (by rw [hv]; rfl) hul (hg1.to k3) rfl hu1 ?_
  intro w4 k4 hg4
  have hg24:=(hg2.to k3).wr k4 (by omega)
  refine L6 (u:=.int .i64 0) rfl rfl hg24 (show 0 < 1 by decide) rfl ?_
  intro w5 k5 hg5
  have hg45:=hg4.wr k5 (by omega)
  repeat refine wW ?_
  refine b25.mono ?_
  rintro u' w' ⟨rfl,rfl⟩
  refine ⟨rfl,[.agg us.toArray,.int .i64 0],⟨_,_,o7 hg45 hul,⟨_,_,P7 (by conv=>(lhs; whnf)) hg5,rfl,rfl⟩,rfl⟩,?_⟩
  refine ⟨((Keeps.past (k.trans k3) k4 (by omega)).past k5 (by omega)),.inl ⟨_,rfl,?_,hy⟩⟩
  rw [← hv]
  exact ((hf.keep (k4.mono fun i hi=>hi.2.1)).keep (k5.mono fun i hi=>hi.2.2)).mono fun i _ hi=>hi.1
 rintro ch w3 ⟨rfl,k3,hf⟩
 refine N5 ?_
 refine (b92 (hg1.to k3) rfl (hg2.to k3)).mono ?_
 rintro u' w' ⟨hu,k4,h1,h2⟩
 refine ⟨hu,[.agg Z9.toArray,.int .i64 E],⟨_,_,o7 h1 rfl,⟨_,_,P7 (by conv=>(lhs; whnf)) h2,rfl,rfl⟩,rfl⟩,?_⟩
 exact ⟨Keeps.later (k.trans k3) k4 (fun i hi _=>⟨by omega,by omega⟩),.inr ⟨rfl,hf⟩⟩
abbrev rrG (v : Value) (a b : Rat) : Gh:=⟨fun S w=>v = .tuple #[R5 v 0,R5 v 1] ∧ RatV S w (R5 v 0) a ∧ RatV S w (R5 v 1) b,fun h k=>⟨h.1,h.2.1.keep k,h.2.2.keep k⟩,fun h k=>⟨h.1,h.2.1.mono k,h.2.2.mono k⟩⟩
theorem dg7 {v : Value} {a b : Rat} {S : Nat → Prop} {w : World} (h : (rrG v a b).p S w) : (pr (.ag 3 (R5 v 0)) (.ag 3 (R5 v 1))).Ok 0 ∧ (pr (.ag 3 (R5 v 0)) (.ag 3 (R5 v 1))).den (fun _=>0) = v:=⟨bo9 h.2.1.ok h.2.2.ok,h.1.symm⟩
namespace T3
def over1 (l u : T3) : Rat:=if l.x ≠ 0 then u.x / l.x else if l.y ≠ 0 then u.y / l.y else u.z / l.z
def mPart (p q r : T3) : Rat:=over1 (p.cross q) (r.cross q)
def nPart (p q r : T3) : Rat:=over1 (p.cross q) (p.cross r)
end T3
theorem az9 {l u : T3} {m n : Nat} (hl : tl l m) (hu : tl u n) (hn : ¬ l.None) : rl (T3.over1 l u) (n + m):=by
 unfold T3.over1
 split
 ·exact ag3 hu.1 hl.1 (O9 ‹_›)
 split
 ·exact ag3 hu.2.1 hl.2.1 (O9 ‹_›)
 rename_i h1 h2
 refine ag3 hu.2.2 hl.2.2 (O9 fun h3=>hn ⟨?_,?_,h3⟩)
 ·exact Classical.not_not.1 h1
 exact Classical.not_not.1 h2
theorem dd9 {S : Nat → Prop} {w : World} {vp vq vr : Value} {p q r : T3} {m : Nat} (hS : Up S w) (hp : TripV S w vp p) (hq : TripV S w vq q) (hr : TripV S w vr r) (hm : tl p m) (hn : tl q m) (hk : tl r m) (hmm : m ≤ 400) (h1 : (p.cross q).x = 0) (h2 : (p.cross q).y = 0) (h0 : (p.cross q).z ≠ 0) :
  Gives prog 141 [vp,vq,vr] w fun v' w'=>Ext w w' ∧ (rrG v' ((r.cross q).z / (p.cross q).z) ((p.cross r).z / (p.cross q).z)).p S w':=by
 have hc:=r9 hm hn
 have hf1 : U5 ((r.cross q).z / (p.cross q).z):=Q9 (ag3 (r9 hk hn).2.2 hc.2.2 (O9 h0)) (by omega)
 have hf2 : U5 ((p.cross r).z / (p.cross q).z):=Q9 (ag3 (r9 hm hk).2.2 hc.2.2 (O9 h0)) (by omega)
 have hp0:=hp
 have hq0:=hq
 obtain ⟨a1,b1,c1,rfl,ha1,hb1,hc1⟩:=hp
 obtain ⟨a2,b2,c2,rfl,ha2,hb2,hc2⟩:=hq
 obtain ⟨a3,b3,c3,rfl,ha3,hb3,hc3⟩:=hr
 refine p7 (E:=env) (S0:=S) (G:=((b8 a1 p.x).and ((b8 b1 p.y).and ((b8 c1 p.z).and ((b8 a2 q.x).and ((b8 b2 q.y).and ((b8 c2 q.z).and ((b8 a3 r.x).and ((b8 b3 r.y).and (b8 c3 r.z)))))))))) (l:=[.agg [.ag 3 a1,.ag 3 b1,.ag 3 c1],.agg [.ag 3 a2,.ag 3 b2,.ag 3 c2],.agg [.ag 3 a3,.ag 3 b3,.ag 3 c3]]) func141 rfl rfl rfl ⟨K0 ⟨ha1.okc,hb1.okc,hc1.okc,trivial⟩,K0 ⟨ha2.okc,hb2.okc,hc2.okc,trivial⟩,K0 ⟨ha3.okc,hb3.okc,hc3.okc,trivial⟩,trivial⟩ rfl ⟨ha1,hb1,hc1,ha2,hb2,hc2,ha3,hb3,hc3⟩ ?_
 refine O3 (fun x0=>.agg [.ag 3 (cel x0 0 3),.ag 3 (cel x0 3 3),.ag 3 (cel x0 6 3)]) (fun x0=>O5 x0 ((p.cross q))) (fun _ _ _ h=>W5 h) (fun β S w hS hs hw hG=>(kx ((J7 hS ⟨_,_,_,rfl,hG.1,hG.2.1,hG.2.2.1⟩ ⟨_,_,_,rfl,hG.2.2.2.1,hG.2.2.2.2.1,hG.2.2.2.2.2.1⟩ hm hn (by omega)).mono fun v' w' h=>⟨h.1,bn9 h.2⟩))) ?_
 intro l
 refine s7 ?_
 refine z7 (.one (.tp ((p.cross q).x = 0))) rfl (fun β S w hS hs hw hG=>(kx (E7 hS hG.1.2.1))) ?_
 refine ad3 (p:=(p.cross q).x = 0) (h1) ?_
 refine z7 (.one (.tp ((p.cross q).y = 0))) rfl (fun β S w hS hs hw hG=>(kx (E7 hS hG.1.2.2.1))) ?_
 refine ad3 (p:=(p.cross q).y = 0) (h2) ?_
 refine z7 (.one (.tp ((p.cross q).z = 0))) rfl (fun β S w hS hs hw hG=>(kx (E7 hS hG.1.2.2.2))) ?_
 refine ai1 (p:=(p.cross q).z = 0) (h0) ?_
 refine q6 24 ?_
 refine d9 6 ?_
 refine q9 (fun x0=>.one (.ag 3 x0)) (fun x0=>b8 x0 ((r.x * q.y))) (fun β η S w hS hs hw hG hd=>(kx (n8 hS hG.2.2.2.2.2.2.2.1 hG.2.2.2.2.2.1 hk.1 hn.2.1))) ?_
 refine d9 6 ?_
 refine q9 (fun x0=>.one (.ag 3 x0)) (fun x0=>b8 x0 ((r.y * q.x))) (fun β η S w hS hs hw hG hd=>(kx (n8 hS hG.2.2.2.2.2.2.2.2.1 hG.2.2.2.2.1 hk.2.1 hn.1))) ?_
 refine q9 (fun x0=>.one (.ag 3 x0)) (fun x0=>b8 x0 ((-(r.y * q.x)))) (fun β η S w hS hs hw hG hd=>(kx (U0 (n9 hd 13 : (b8 (η 13) ((r.y * q.x))).p S w)))) ?_
 refine I6 53 3 2 (fun x0=>B6 x0 [r.x * q.y,-(r.y * q.x)]) (fun β η S w x0 w' hS hs hw hG hd hk hrow=>ae7 ((n9 hd 6 : (b8 (η 6) ((r.x * q.y))).p S w).to hk) ((n9 hd 14 : (b8 (η 14) ((-(r.y * q.x)))).p S w).to hk) (kcQ hrow)) ?_
 refine q9 (fun x0=>.one (.ag 3 x0)) (fun x0=>b8 x0 (((r.cross q).z))) (fun β η S w hS hs hw hG hd=>(kx (K4 (m:=m + m) (aa1 _ _) hS (n9 hd 15 : (B6 (η 15) [r.x * q.y,-(r.y * q.x)]).p S w) (ad4 (q7 hk.1 hn.2.1) (L4 (q7 hk.2.1 hn.1))) (by simp only [List.length]; omega)))) ?_
 refine d9 3 ?_
 refine h_1 (fun x0=>pr (.ag 3 (F4 x0)) (.lit .i64 0)) (fun x0=>ad7 x0 (((r.cross q).z / (p.cross q).z)) 0) (fun η=>(by kernel_rfl)) (fun _ _ _ h=>X3 h) (fun β η S w hS hs hw hG hd=>(kx (as6 hf1 (am5 hS (n9 hd 16 : (b8 (η 16) (((r.cross q).z))).p S w) hG.1.2.2.2 (m6 (r9 hk hn).2.2) (m6 hc.2.2) (O9 h0))))) ?_
 refine d9 2 ?_
 refine q9 (fun x0=>.one (.ag 3 x0)) (fun x0=>b8 x0 (((r.cross q).z / (p.cross q).z))) (fun β η S w hS hs hw hG hd=>(kx (Z0 hS (n9 hd 20 : (ad7 (η 20) (((r.cross q).z / (p.cross q).z)) 0).p S w).2))) ?_
 refine o6 [true,false,false,false,false,false,false] ((O5 l ((p.cross q))).and ((b8 a1 p.x).and ((b8 b1 p.y).and ((b8 a3 r.x).and ((b8 b3 r.y).and (Gh.nil)))))) (by exact fun _ _ h=>⟨h.1,h.2.1,h.2.2.1,h.2.2.2.2.2.2.2.1,h.2.2.2.2.2.2.2.2.1,trivial⟩) (fun g η=>(b8 (η 23) (((r.cross q).z / (p.cross q).z))).and g) (fun g η=>(by kernel_rfl)) ?_
 intro η_1
 refine q6 24 ?_
 refine d9 6 ?_
 refine q9 (fun x0=>.one (.ag 3 x0)) (fun x0=>b8 x0 ((p.x * r.y))) (fun β η S w hS hs hw hG hd=>(kx (n8 hS hG.2.2.1 hG.2.2.2.2.2.1 hm.1 hk.2.1))) ?_
 refine d9 6 ?_
 refine q9 (fun x0=>.one (.ag 3 x0)) (fun x0=>b8 x0 ((p.y * r.x))) (fun β η S w hS hs hw hG hd=>(kx (n8 hS hG.2.2.2.1 hG.2.2.2.2.1 hm.2.1 hk.1))) ?_
 refine q9 (fun x0=>.one (.ag 3 x0)) (fun x0=>b8 x0 ((-(p.y * r.x)))) (fun β η S w hS hs hw hG hd=>(kx (U0 (n9 hd 13 : (b8 (η 13) ((p.y * r.x))).p S w)))) ?_
 refine I6 53 3 2 (fun x0=>B6 x0 [p.x * r.y,-(p.y * r.x)]) (fun β η S w x0 w' hS hs hw hG hd hk hrow=>ae7 ((n9 hd 6 : (b8 (η 6) ((p.x * r.y))).p S w).to hk) ((n9 hd 14 : (b8 (η 14) ((-(p.y * r.x)))).p S w).to hk) (kcQ hrow)) ?_
 refine q9 (fun x0=>.one (.ag 3 x0)) (fun x0=>b8 x0 (((p.cross r).z))) (fun β η S w hS hs hw hG hd=>(kx (K4 (m:=m + m) (aa1 _ _) hS (n9 hd 15 : (B6 (η 15) [p.x * r.y,-(p.y * r.x)]).p S w) (ad4 (q7 hm.1 hk.2.1) (L4 (q7 hm.2.1 hk.1))) (by simp only [List.length]; omega)))) ?_
 refine d9 3 ?_
 refine h_1 (fun x0=>pr (.ag 3 (F4 x0)) (.lit .i64 0)) (fun x0=>ad7 x0 (((p.cross r).z / (p.cross q).z)) 0) (fun η=>(by kernel_rfl)) (fun _ _ _ h=>X3 h) (fun β η S w hS hs hw hG hd=>(kx (as6 hf2 (am5 hS (n9 hd 16 : (b8 (η 16) (((p.cross r).z))).p S w) hG.2.1.2.2.2 (m6 (r9 hm hk).2.2) (m6 hc.2.2) (O9 h0))))) ?_
 refine d9 2 ?_
 refine q9 (fun x0=>.one (.ag 3 x0)) (fun x0=>b8 x0 (((p.cross r).z / (p.cross q).z))) (fun β η S w hS hs hw hG hd=>(kx (Z0 hS (n9 hd 20 : (ad7 (η 20) (((p.cross r).z / (p.cross q).z)) 0).p S w).2))) ?_
 refine o6 [true,false,false,false,false,false,false] ((b8 (η_1 23) (((r.cross q).z / (p.cross q).z))).and (Gh.nil)) (by exact fun _ _ h=>⟨h.1,trivial⟩) (fun g η=>(b8 (η 23) (((p.cross r).z / (p.cross q).z))).and g) (fun g η=>(by kernel_rfl)) ?_
 intro η_2
 refine q6 4 ?_
 refine d9 2 ?_
 refine au7 ⟨b9,hS,j5⟩ (fun η=>(by kernel_rfl)) (fun η=>(by kernel_rfl)) ?_
 refine au7 ⟨b9,hS,j5⟩ (fun η=>(by kernel_rfl)) (fun η=>(by kernel_rfl)) ?_
 refine o6 [] ((b8 (η_2 23) (((p.cross r).z / (p.cross q).z))).and ((b8 (η_1 23) (((r.cross q).z / (p.cross q).z))).and (Gh.nil))) (by exact fun _ _ h=>⟨h.1,h.2.1,trivial⟩) (fun g η=>g) (fun g η=>(by kernel_rfl)) ?_
 intro η_3
 exact p9 (.tuple #[η_1 23,η_2 23]) rfl (fun S w hs hw hG=>⟨hw,rfl,hG.2.1.mono fun k _ hk=>hs k hk,hG.1.mono fun k _ hk=>hs k hk⟩)
theorem dh6 {S : Nat → Prop} {w : World} {vp vq vr : Value} {p q r : T3} {m : Nat} (hS : Up S w) (hp : TripV S w vp p) (hq : TripV S w vq q) (hr : TripV S w vr r) (hm : tl p m) (hn : tl q m) (hk : tl r m) (hmm : m ≤ 400) (h0 : (p.cross q).x ≠ 0) :
  Gives prog 141 [vp,vq,vr] w fun v' w'=>Ext w w' ∧ (rrG v' ((r.cross q).x / (p.cross q).x) ((p.cross r).x / (p.cross q).x)).p S w':=by
 have hc:=r9 hm hn
 have hf1 : U5 ((r.cross q).x / (p.cross q).x):=Q9 (ag3 (r9 hk hn).1 hc.1 (O9 h0)) (by omega)
 have hf2 : U5 ((p.cross r).x / (p.cross q).x):=Q9 (ag3 (r9 hm hk).1 hc.1 (O9 h0)) (by omega)
 have hp0:=hp
 have hq0:=hq
 obtain ⟨a1,b1,c1,rfl,ha1,hb1,hc1⟩:=hp
 obtain ⟨a2,b2,c2,rfl,ha2,hb2,hc2⟩:=hq
 obtain ⟨a3,b3,c3,rfl,ha3,hb3,hc3⟩:=hr
 refine p7 (E:=env) (S0:=S) (G:=((b8 a1 p.x).and ((b8 b1 p.y).and ((b8 c1 p.z).and ((b8 a2 q.x).and ((b8 b2 q.y).and ((b8 c2 q.z).and ((b8 a3 r.x).and ((b8 b3 r.y).and (b8 c3 r.z)))))))))) (l:=[.agg [.ag 3 a1,.ag 3 b1,.ag 3 c1],.agg [.ag 3 a2,.ag 3 b2,.ag 3 c2],.agg [.ag 3 a3,.ag 3 b3,.ag 3 c3]]) func141 rfl rfl rfl ⟨K0 ⟨ha1.okc,hb1.okc,hc1.okc,trivial⟩,K0 ⟨ha2.okc,hb2.okc,hc2.okc,trivial⟩,K0 ⟨ha3.okc,hb3.okc,hc3.okc,trivial⟩,trivial⟩ rfl ⟨ha1,hb1,hc1,ha2,hb2,hc2,ha3,hb3,hc3⟩ ?_
 refine O3 (fun x0=>.agg [.ag 3 (cel x0 0 3),.ag 3 (cel x0 3 3),.ag 3 (cel x0 6 3)]) (fun x0=>O5 x0 ((p.cross q))) (fun _ _ _ h=>W5 h) (fun β S w hS hs hw hG=>(kx ((J7 hS ⟨_,_,_,rfl,hG.1,hG.2.1,hG.2.2.1⟩ ⟨_,_,_,rfl,hG.2.2.2.1,hG.2.2.2.2.1,hG.2.2.2.2.2.1⟩ hm hn (by omega)).mono fun v' w' h=>⟨h.1,bn9 h.2⟩))) ?_
 intro l
 refine s7 ?_
 refine z7 (.one (.tp ((p.cross q).x = 0))) rfl (fun β S w hS hs hw hG=>(kx (E7 hS hG.1.2.1))) ?_
 refine ai1 (p:=(p.cross q).x = 0) (h0) ?_
 refine q6 24 ?_
 refine d9 6 ?_
 refine q9 (fun x0=>.one (.ag 3 x0)) (fun x0=>b8 x0 ((r.y * q.z))) (fun β η S w hS hs hw hG hd=>(kx (n8 hS hG.2.2.2.2.2.2.2.2.1 hG.2.2.2.2.2.2.1 hk.2.1 hn.2.2))) ?_
 refine d9 6 ?_
 refine q9 (fun x0=>.one (.ag 3 x0)) (fun x0=>b8 x0 ((r.z * q.y))) (fun β η S w hS hs hw hG hd=>(kx (n8 hS hG.2.2.2.2.2.2.2.2.2 hG.2.2.2.2.2.1 hk.2.2 hn.2.1))) ?_
 refine q9 (fun x0=>.one (.ag 3 x0)) (fun x0=>b8 x0 ((-(r.z * q.y)))) (fun β η S w hS hs hw hG hd=>(kx (U0 (n9 hd 13 : (b8 (η 13) ((r.z * q.y))).p S w)))) ?_
 refine I6 53 3 2 (fun x0=>B6 x0 [r.y * q.z,-(r.z * q.y)]) (fun β η S w x0 w' hS hs hw hG hd hk hrow=>ae7 ((n9 hd 6 : (b8 (η 6) ((r.y * q.z))).p S w).to hk) ((n9 hd 14 : (b8 (η 14) ((-(r.z * q.y)))).p S w).to hk) (kcQ hrow)) ?_
 refine q9 (fun x0=>.one (.ag 3 x0)) (fun x0=>b8 x0 (((r.cross q).x))) (fun β η S w hS hs hw hG hd=>(kx (K4 (m:=m + m) (aa1 _ _) hS (n9 hd 15 : (B6 (η 15) [r.y * q.z,-(r.z * q.y)]).p S w) (ad4 (q7 hk.2.1 hn.2.2) (L4 (q7 hk.2.2 hn.2.1))) (by simp only [List.length]; omega)))) ?_
 refine d9 3 ?_
 refine h_1 (fun x0=>pr (.ag 3 (F4 x0)) (.lit .i64 0)) (fun x0=>ad7 x0 (((r.cross q).x / (p.cross q).x)) 0) (fun η=>(by kernel_rfl)) (fun _ _ _ h=>X3 h) (fun β η S w hS hs hw hG hd=>(kx (as6 hf1 (am5 hS (n9 hd 16 : (b8 (η 16) (((r.cross q).x))).p S w) hG.1.2.1 (m6 (r9 hk hn).1) (m6 hc.1) (O9 h0))))) ?_
 refine d9 2 ?_
 refine q9 (fun x0=>.one (.ag 3 x0)) (fun x0=>b8 x0 (((r.cross q).x / (p.cross q).x))) (fun β η S w hS hs hw hG hd=>(kx (Z0 hS (n9 hd 20 : (ad7 (η 20) (((r.cross q).x / (p.cross q).x)) 0).p S w).2))) ?_
 refine o6 [true,false,false,false,false,false,false] ((O5 l ((p.cross q))).and ((b8 b1 p.y).and ((b8 c1 p.z).and ((b8 b3 r.y).and ((b8 c3 r.z).and (Gh.nil)))))) (by exact fun _ _ h=>⟨h.1,h.2.2.1,h.2.2.2.1,h.2.2.2.2.2.2.2.2.1,h.2.2.2.2.2.2.2.2.2,trivial⟩) (fun g η=>(b8 (η 23) (((r.cross q).x / (p.cross q).x))).and g) (fun g η=>(by kernel_rfl)) ?_
 intro η_1
 refine q6 24 ?_
 refine d9 6 ?_
 refine q9 (fun x0=>.one (.ag 3 x0)) (fun x0=>b8 x0 ((p.y * r.z))) (fun β η S w hS hs hw hG hd=>(kx (n8 hS hG.2.2.1 hG.2.2.2.2.2.1 hm.2.1 hk.2.2))) ?_
 refine d9 6 ?_
 refine q9 (fun x0=>.one (.ag 3 x0)) (fun x0=>b8 x0 ((p.z * r.y))) (fun β η S w hS hs hw hG hd=>(kx (n8 hS hG.2.2.2.1 hG.2.2.2.2.1 hm.2.2 hk.2.1))) ?_
 refine q9 (fun x0=>.one (.ag 3 x0)) (fun x0=>b8 x0 ((-(p.z * r.y)))) (fun β η S w hS hs hw hG hd=>(kx (U0 (n9 hd 13 : (b8 (η 13) ((p.z * r.y))).p S w)))) ?_
 refine I6 53 3 2 (fun x0=>B6 x0 [p.y * r.z,-(p.z * r.y)]) (fun β η S w x0 w' hS hs hw hG hd hk hrow=>ae7 ((n9 hd 6 : (b8 (η 6) ((p.y * r.z))).p S w).to hk) ((n9 hd 14 : (b8 (η 14) ((-(p.z * r.y)))).p S w).to hk) (kcQ hrow)) ?_
 refine q9 (fun x0=>.one (.ag 3 x0)) (fun x0=>b8 x0 (((p.cross r).x))) (fun β η S w hS hs hw hG hd=>(kx (K4 (m:=m + m) (aa1 _ _) hS (n9 hd 15 : (B6 (η 15) [p.y * r.z,-(p.z * r.y)]).p S w) (ad4 (q7 hm.2.1 hk.2.2) (L4 (q7 hm.2.2 hk.2.1))) (by simp only [List.length]; omega)))) ?_
 refine d9 3 ?_
 refine h_1 (fun x0=>pr (.ag 3 (F4 x0)) (.lit .i64 0)) (fun x0=>ad7 x0 (((p.cross r).x / (p.cross q).x)) 0) (fun η=>(by kernel_rfl)) (fun _ _ _ h=>X3 h) (fun β η S w hS hs hw hG hd=>(kx (as6 hf2 (am5 hS (n9 hd 16 : (b8 (η 16) (((p.cross r).x))).p S w) hG.2.1.2.1 (m6 (r9 hm hk).1) (m6 hc.1) (O9 h0))))) ?_
 refine d9 2 ?_
 refine q9 (fun x0=>.one (.ag 3 x0)) (fun x0=>b8 x0 (((p.cross r).x / (p.cross q).x))) (fun β η S w hS hs hw hG hd=>(kx (Z0 hS (n9 hd 20 : (ad7 (η 20) (((p.cross r).x / (p.cross q).x)) 0).p S w).2))) ?_
 refine o6 [true,false,false,false,false,false,false] ((b8 (η_1 23) (((r.cross q).x / (p.cross q).x))).and (Gh.nil)) (by exact fun _ _ h=>⟨h.1,trivial⟩) (fun g η=>(b8 (η 23) (((p.cross r).x / (p.cross q).x))).and g) (fun g η=>(by kernel_rfl)) ?_
 intro η_2
 refine q6 4 ?_
 refine d9 2 ?_
 refine au7 ⟨b9,hS,j5⟩ (fun η=>(by kernel_rfl)) (fun η=>(by kernel_rfl)) ?_
 refine au7 ⟨b9,hS,j5⟩ (fun η=>(by kernel_rfl)) (fun η=>(by kernel_rfl)) ?_
 refine o6 [] ((b8 (η_2 23) (((p.cross r).x / (p.cross q).x))).and ((b8 (η_1 23) (((r.cross q).x / (p.cross q).x))).and (Gh.nil))) (by exact fun _ _ h=>⟨h.1,h.2.1,trivial⟩) (fun g η=>g) (fun g η=>(by kernel_rfl)) ?_
 intro η_3
 exact p9 (.tuple #[η_1 23,η_2 23]) rfl (fun S w hs hw hG=>⟨hw,rfl,hG.2.1.mono fun k _ hk=>hs k hk,hG.1.mono fun k _ hk=>hs k hk⟩)
theorem df4 {S : Nat → Prop} {w : World} {vp vq vr : Value} {p q r : T3} {m : Nat} (hS : Up S w) (hp : TripV S w vp p) (hq : TripV S w vq q) (hr : TripV S w vr r) (hm : tl p m) (hn : tl q m) (hk : tl r m) (hmm : m ≤ 400) (h1 : (p.cross q).x = 0) (h0 : (p.cross q).y ≠ 0) :
  Gives prog 141 [vp,vq,vr] w fun v' w'=>Ext w w' ∧ (rrG v' ((r.cross q).y / (p.cross q).y) ((p.cross r).y / (p.cross q).y)).p S w':=by
 have hc:=r9 hm hn
 have hf1 : U5 ((r.cross q).y / (p.cross q).y):=Q9 (ag3 (r9 hk hn).2.1 hc.2.1 (O9 h0)) (by omega)
 have hf2 : U5 ((p.cross r).y / (p.cross q).y):=Q9 (ag3 (r9 hm hk).2.1 hc.2.1 (O9 h0)) (by omega)
 have hp0:=hp
 have hq0:=hq
 obtain ⟨a1,b1,c1,rfl,ha1,hb1,hc1⟩:=hp
 obtain ⟨a2,b2,c2,rfl,ha2,hb2,hc2⟩:=hq
 obtain ⟨a3,b3,c3,rfl,ha3,hb3,hc3⟩:=hr
 refine p7 (E:=env) (S0:=S) (G:=((b8 a1 p.x).and ((b8 b1 p.y).and ((b8 c1 p.z).and ((b8 a2 q.x).and ((b8 b2 q.y).and ((b8 c2 q.z).and ((b8 a3 r.x).and ((b8 b3 r.y).and (b8 c3 r.z)))))))))) (l:=[.agg [.ag 3 a1,.ag 3 b1,.ag 3 c1],.agg [.ag 3 a2,.ag 3 b2,.ag 3 c2],.agg [.ag 3 a3,.ag 3 b3,.ag 3 c3]]) func141 rfl rfl rfl ⟨K0 ⟨ha1.okc,hb1.okc,hc1.okc,trivial⟩,K0 ⟨ha2.okc,hb2.okc,hc2.okc,trivial⟩,K0 ⟨ha3.okc,hb3.okc,hc3.okc,trivial⟩,trivial⟩ rfl ⟨ha1,hb1,hc1,ha2,hb2,hc2,ha3,hb3,hc3⟩ ?_
 refine O3 (fun x0=>.agg [.ag 3 (cel x0 0 3),.ag 3 (cel x0 3 3),.ag 3 (cel x0 6 3)]) (fun x0=>O5 x0 ((p.cross q))) (fun _ _ _ h=>W5 h) (fun β S w hS hs hw hG=>(kx ((J7 hS ⟨_,_,_,rfl,hG.1,hG.2.1,hG.2.2.1⟩ ⟨_,_,_,rfl,hG.2.2.2.1,hG.2.2.2.2.1,hG.2.2.2.2.2.1⟩ hm hn (by omega)).mono fun v' w' h=>⟨h.1,bn9 h.2⟩))) ?_
 intro l
 refine s7 ?_
 refine z7 (.one (.tp ((p.cross q).x = 0))) rfl (fun β S w hS hs hw hG=>(kx (E7 hS hG.1.2.1))) ?_
 refine ad3 (p:=(p.cross q).x = 0) (h1) ?_
 refine z7 (.one (.tp ((p.cross q).y = 0))) rfl (fun β S w hS hs hw hG=>(kx (E7 hS hG.1.2.2.1))) ?_
 refine ai1 (p:=(p.cross q).y = 0) (h0) ?_
 refine q6 24 ?_
 refine d9 6 ?_
 refine q9 (fun x0=>.one (.ag 3 x0)) (fun x0=>b8 x0 ((r.z * q.x))) (fun β η S w hS hs hw hG hd=>(kx (n8 hS hG.2.2.2.2.2.2.2.2.2 hG.2.2.2.2.1 hk.2.2 hn.1))) ?_
 refine d9 6 ?_
 refine q9 (fun x0=>.one (.ag 3 x0)) (fun x0=>b8 x0 ((r.x * q.z))) (fun β η S w hS hs hw hG hd=>(kx (n8 hS hG.2.2.2.2.2.2.2.1 hG.2.2.2.2.2.2.1 hk.1 hn.2.2))) ?_
 refine q9 (fun x0=>.one (.ag 3 x0)) (fun x0=>b8 x0 ((-(r.x * q.z)))) (fun β η S w hS hs hw hG hd=>(kx (U0 (n9 hd 13 : (b8 (η 13) ((r.x * q.z))).p S w)))) ?_
 refine I6 53 3 2 (fun x0=>B6 x0 [r.z * q.x,-(r.x * q.z)]) (fun β η S w x0 w' hS hs hw hG hd hk hrow=>ae7 ((n9 hd 6 : (b8 (η 6) ((r.z * q.x))).p S w).to hk) ((n9 hd 14 : (b8 (η 14) ((-(r.x * q.z)))).p S w).to hk) (kcQ hrow)) ?_
 refine q9 (fun x0=>.one (.ag 3 x0)) (fun x0=>b8 x0 (((r.cross q).y))) (fun β η S w hS hs hw hG hd=>(kx (K4 (m:=m + m) (aa1 _ _) hS (n9 hd 15 : (B6 (η 15) [r.z * q.x,-(r.x * q.z)]).p S w) (ad4 (q7 hk.2.2 hn.1) (L4 (q7 hk.1 hn.2.2))) (by simp only [List.length]; omega)))) ?_
 refine d9 3 ?_
 refine h_1 (fun x0=>pr (.ag 3 (F4 x0)) (.lit .i64 0)) (fun x0=>ad7 x0 (((r.cross q).y / (p.cross q).y)) 0) (fun η=>(by kernel_rfl)) (fun _ _ _ h=>X3 h) (fun β η S w hS hs hw hG hd=>(kx (as6 hf1 (am5 hS (n9 hd 16 : (b8 (η 16) (((r.cross q).y))).p S w) hG.1.2.2.1 (m6 (r9 hk hn).2.1) (m6 hc.2.1) (O9 h0))))) ?_
 refine d9 2 ?_
 refine q9 (fun x0=>.one (.ag 3 x0)) (fun x0=>b8 x0 (((r.cross q).y / (p.cross q).y))) (fun β η S w hS hs hw hG hd=>(kx (Z0 hS (n9 hd 20 : (ad7 (η 20) (((r.cross q).y / (p.cross q).y)) 0).p S w).2))) ?_
 refine o6 [true,false,false,false,false,false,false] ((O5 l ((p.cross q))).and ((b8 a1 p.x).and ((b8 c1 p.z).and ((b8 a3 r.x).and ((b8 c3 r.z).and (Gh.nil)))))) (by exact fun _ _ h=>⟨h.1,h.2.1,h.2.2.2.1,h.2.2.2.2.2.2.2.1,h.2.2.2.2.2.2.2.2.2,trivial⟩) (fun g η=>(b8 (η 23) (((r.cross q).y / (p.cross q).y))).and g) (fun g η=>(by kernel_rfl)) ?_
 intro η_1
 refine q6 24 ?_
 refine d9 6 ?_
 refine q9 (fun x0=>.one (.ag 3 x0)) (fun x0=>b8 x0 ((p.z * r.x))) (fun β η S w hS hs hw hG hd=>(kx (n8 hS hG.2.2.2.1 hG.2.2.2.2.1 hm.2.2 hk.1))) ?_
 refine d9 6 ?_
 refine q9 (fun x0=>.one (.ag 3 x0)) (fun x0=>b8 x0 ((p.x * r.z))) (fun β η S w hS hs hw hG hd=>(kx (n8 hS hG.2.2.1 hG.2.2.2.2.2.1 hm.1 hk.2.2))) ?_
 refine q9 (fun x0=>.one (.ag 3 x0)) (fun x0=>b8 x0 ((-(p.x * r.z)))) (fun β η S w hS hs hw hG hd=>(kx (U0 (n9 hd 13 : (b8 (η 13) ((p.x * r.z))).p S w)))) ?_
 refine I6 53 3 2 (fun x0=>B6 x0 [p.z * r.x,-(p.x * r.z)]) (fun β η S w x0 w' hS hs hw hG hd hk hrow=>ae7 ((n9 hd 6 : (b8 (η 6) ((p.z * r.x))).p S w).to hk) ((n9 hd 14 : (b8 (η 14) ((-(p.x * r.z)))).p S w).to hk) (kcQ hrow)) ?_
 refine q9 (fun x0=>.one (.ag 3 x0)) (fun x0=>b8 x0 (((p.cross r).y))) (fun β η S w hS hs hw hG hd=>(kx (K4 (m:=m + m) (aa1 _ _) hS (n9 hd 15 : (B6 (η 15) [p.z * r.x,-(p.x * r.z)]).p S w) (ad4 (q7 hm.2.2 hk.1) (L4 (q7 hm.1 hk.2.2))) (by simp only [List.length]; omega)))) ?_
 refine d9 3 ?_
 refine h_1 (fun x0=>pr (.ag 3 (F4 x0)) (.lit .i64 0)) (fun x0=>ad7 x0 (((p.cross r).y / (p.cross q).y)) 0) (fun η=>(by kernel_rfl)) (fun _ _ _ h=>X3 h) (fun β η S w hS hs hw hG hd=>(kx (as6 hf2 (am5 hS (n9 hd 16 : (b8 (η 16) (((p.cross r).y))).p S w) hG.2.1.2.2.1 (m6 (r9 hm hk).2.1) (m6 hc.2.1) (O9 h0))))) ?_
 refine d9 2 ?_
 refine q9 (fun x0=>.one (.ag 3 x0)) (fun x0=>b8 x0 (((p.cross r).y / (p.cross q).y))) (fun β η S w hS hs hw hG hd=>(kx (Z0 hS (n9 hd 20 : (ad7 (η 20) (((p.cross r).y / (p.cross q).y)) 0).p S w).2))) ?_
 refine o6 [true,false,false,false,false,false,false] ((b8 (η_1 23) (((r.cross q).y / (p.cross q).y))).and (Gh.nil)) (by exact fun _ _ h=>⟨h.1,trivial⟩) (fun g η=>(b8 (η 23) (((p.cross r).y / (p.cross q).y))).and g) (fun g η=>(by kernel_rfl)) ?_
 intro η_2
 refine q6 4 ?_
 refine d9 2 ?_
 refine au7 ⟨b9,hS,j5⟩ (fun η=>(by kernel_rfl)) (fun η=>(by kernel_rfl)) ?_
 refine au7 ⟨b9,hS,j5⟩ (fun η=>(by kernel_rfl)) (fun η=>(by kernel_rfl)) ?_
 refine o6 [] ((b8 (η_2 23) (((p.cross r).y / (p.cross q).y))).and ((b8 (η_1 23) (((r.cross q).y / (p.cross q).y))).and (Gh.nil))) (by exact fun _ _ h=>⟨h.1,h.2.1,trivial⟩) (fun g η=>g) (fun g η=>(by kernel_rfl)) ?_
 intro η_3
 exact p9 (.tuple #[η_1 23,η_2 23]) rfl (fun S w hs hw hG=>⟨hw,rfl,hG.2.1.mono fun k _ hk=>hs k hk,hG.1.mono fun k _ hk=>hs k hk⟩)
def d20 (p q : T3) : Prop:=∀ {S : Nat → Prop} {w : World} {vp vq vr : Value} {r : T3} {m : Nat},Up S w → TripV S w vp p → TripV S w vq q → TripV S w vr r → tl p m → tl q m → tl r m → m ≤ 400 →
  Gives prog 141 [vp,vq,vr] w fun v' w'=>Ext w w' ∧ (rrG v' (T3.mPart p q r) (T3.nPart p q r)).p S w'
theorem c80 {S : Nat → Prop} {w : World} {vp vq vr : Value} {p q r : T3} {m : Nat} (hS : Up S w) (hp : TripV S w vp p) (hq : TripV S w vq q) (hr : TripV S w vr r) (hm : tl p m) (hn : tl q m) (hk : tl r m) (hmm : m ≤ 400) (hs0 : ¬ T3.Same p q) :
  Gives prog 141 [vp,vq,vr] w fun v' w'=>Ext w w' ∧ (rrG v' (T3.mPart p q r) (T3.nPart p q r)).p S w':=by
 unfold T3.mPart T3.nPart T3.over1
 by_cases h1 : (p.cross q).x = 0
 ·by_cases h2 : (p.cross q).y = 0
  ·simp only [h1,h2,ne_eq,not_true_eq_false,if_false]
   exact dd9 hS hp hq hr hm hn hk hmm h1 h2 fun h3=>hs0 ⟨h1,h2,h3⟩
  simp only [h1,h2,ne_eq,not_true_eq_false,not_false_eq_true,if_false,if_true]
  exact df4 hS hp hq hr hm hn hk hmm h1 h2
 simp only [h1,ne_eq,not_false_eq_true,if_true]
 exact dh6 hS hp hq hr hm hn hk hmm h1
theorem dz4 {S : Nat → Prop} {w : World} {a b c d : Value} {p q r s : T3} (h1 : TripV S w a p) (h2 : TripV S w b q) (h3 : TripV S w c r) (h4 : TripV S w d s) : ElsV true 9 ad5 S w [a,b,c,d] [p,q,r,s]:=by
 refine ⟨rfl,fun x hx=>?_,fun i t x hq hx=>?_⟩
 ·simp only [List.mem_cons,List.not_mem_nil,or_false] at hx
  rcases hx with rfl | rfl | rfl | rfl
  ·exact h1.lies
  ·exact h2.lies
  ·exact h3.lies
  exact h4.lies
 match i with
 | 0=>simp at hq hx; subst hq hx; exact h1
 | 1=>simp at hq hx; subst hq hx; exact h2
 | 2=>simp at hq hx; subst hq hx; exact h3
 | 3=>simp at hq hx; subst hq hx; exact h4
 | i + 4=>simp at hq
theorem dr5 {p q r s : T3} {P : T3 → Prop} (h1 : P p) (h2 : P q) (h3 : P r) (h4 : P s) : ∀ t ∈ [p,q,r,s],P t:=by
 intro t ht
 simp only [List.mem_cons,List.not_mem_nil,or_false] at ht
 rcases ht with rfl | rfl | rfl | rfl
 ·exact h1
 ·exact h2
 ·exact h3
 exact h4
namespace T3
def ratioQ (p q r s : T3) : Rat:=if nPart p q s = 0 then 0 else (mPart p q s * nPart p q r) / (mPart p q r * nPart p q s)
end T3
theorem Z6 {a b : Rat} (ha : a ≠ 0) (hb : b ≠ 0) : a * b ≠ 0:=by
 intro h
 rcases Rat.mul_eq_zero.1 h with h | h
 ·exact ha h
 exact hb h
theorem cy2 {S : Nat → Prop} {w : World} {u1 u2 u3 u4 : Value} {p q r s : T3} {m : Nat} (hpt : d20 p q) (ht : Tab w) (hS : Up S w) (o1 : u1.oneCell' = true) (o2 : u2.oneCell' = true) (o3 : u3.oneCell' = true) (o4 : u4.oneCell' = true) (h1 : (A4 u1 p).p S w) (h2 : (A4 u2 q).p S w) (h3 : (A4 u3 r).p S w) (h4 : (A4 u4 s).p S w)
  (k1 : tl p m) (k2 : tl q m) (k3 : tl r m) (k4 : tl s m) (hmm : m ≤ 100) (b1 : D5 p = 0) (b2 : D5 q = 0) (b3 : D5 r = 0) (b4 : D5 s = 0) (d1 : ¬ T3.Same p q) (d2 : ¬ T3.Same p r) (d3 : ¬ T3.Same q r) (d4 : T3.Flat p q r) (d5 : T3.Flat p q s) (hm0 : T3.mPart p q r ≠ 0) :
  Gives prog 139 [u1,u2,u3,u4] w fun v' w'=>Ext w w' ∧ RatioV S w' v' (T3.ratioQ p q r s) (T3.nPart p q s = 0):=by
 have rm1 : rl (T3.mPart p q r) (8 * m + 2):=m6 (az9 (r9 k1 k2) (r9 k3 k2) d1)
 have rn1 : rl (T3.nPart p q r) (8 * m + 2):=m6 (az9 (r9 k1 k2) (r9 k1 k3) d1)
 have rm2 : rl (T3.mPart p q s) (8 * m + 2):=m6 (az9 (r9 k1 k2) (r9 k4 k2) d1)
 have rn2 : rl (T3.nPart p q s) (8 * m + 2):=m6 (az9 (r9 k1 k2) (r9 k1 k4) d1)
 refine p7 (E:=env) (S0:=S) (G:=((A4 u1 p).and ((A4 u2 q).and ((A4 u3 r).and (A4 u4 s))))) (l:=[.one (.val u1),.one (.val u2),.one (.val u3),.one (.val u4)]) func139 rfl rfl rfl ⟨o1,o2,o3,o4,trivial⟩ rfl ⟨h1,h2,h3,h4⟩ ?_
 refine n7 (p8 u1 55 9 true (fun x0=>.one (.ag 9 x0)) (fun x0=>j6 x0 (p)) (fun β S w hM hw hG=>let ⟨y,e1,e2,e3⟩:=hG.1; ⟨S,y,e1,e2,e3⟩) ?_)
 intro y1
 refine n7 (p8 u2 55 9 true (fun x0=>.one (.ag 9 x0)) (fun x0=>j6 x0 (q)) (fun β S w hM hw hG=>let ⟨y,e1,e2,e3⟩:=hG.2.2.1; ⟨S,y,e1,e2,e3⟩) ?_)
 intro y2
 refine n7 (p8 u3 55 9 true (fun x0=>.one (.ag 9 x0)) (fun x0=>j6 x0 (r)) (fun β S w hM hw hG=>let ⟨y,e1,e2,e3⟩:=hG.2.2.2.2.1; ⟨S,y,e1,e2,e3⟩) ?_)
 intro y3
 refine n7 (p8 u4 55 9 true (fun x0=>.one (.ag 9 x0)) (fun x0=>j6 x0 (s)) (fun β S w hM hw hG=>let ⟨y,e1,e2,e3⟩:=hG.2.2.2.2.2.2; ⟨S,y,e1,e2,e3⟩) ?_)
 intro y4
 refine ac5 (.und) rfl (fun β S w hS hM hs hw hG=>(kx (M2 (ht.to hw) (A8 hS) (H2 (l:=[p,q,r,s]) 1 55 [y1,y2,y3,y4] hM (by kernel_rfl) (dz4 hG.2.2.2.1 hG.2.2.1 hG.2.1 hG.1) (show 4 ≤ maxLen by decide)) (dr5 (D4 k1) (D4 k2) (D4 k3) (D4 k4)) (dr5 b1 b2 b3 b4)))) ?_
 refine n7 (p8 u1 55 9 true (fun x0=>.one (.ag 9 x0)) (fun x0=>j6 x0 (p)) (fun β S w hM hw hG=>let ⟨y,e1,e2,e3⟩:=hG.2.2.2.2.1; ⟨S,y,e1,e2,e3⟩) ?_)
 intro t1
 refine n7 (p8 u2 55 9 true (fun x0=>.one (.ag 9 x0)) (fun x0=>j6 x0 (q)) (fun β S w hM hw hG=>let ⟨y,e1,e2,e3⟩:=hG.2.2.2.2.2.2.1; ⟨S,y,e1,e2,e3⟩) ?_)
 intro t2
 refine n7 (p8 u3 55 9 true (fun x0=>.one (.ag 9 x0)) (fun x0=>j6 x0 (r)) (fun β S w hM hw hG=>let ⟨y,e1,e2,e3⟩:=hG.2.2.2.2.2.2.2.2.1; ⟨S,y,e1,e2,e3⟩) ?_)
 intro t3
 refine z7 (.und) rfl (fun β S w hS hs hw hG=>(kx (bz2 hS hG.2.2.1 hG.2.1 hG.1 k1 k2 k3 (by omega) d1 d2 d3 d4))) ?_
 refine n7 (p8 u1 55 9 true (fun x0=>.one (.ag 9 x0)) (fun x0=>j6 x0 (p)) (fun β S w hM hw hG=>let ⟨y,e1,e2,e3⟩:=hG.2.2.2.2.2.2.2.1; ⟨S,y,e1,e2,e3⟩) ?_)
 intro t4
 refine n7 (p8 u2 55 9 true (fun x0=>.one (.ag 9 x0)) (fun x0=>j6 x0 (q)) (fun β S w hM hw hG=>let ⟨y,e1,e2,e3⟩:=hG.2.2.2.2.2.2.2.2.2.1; ⟨S,y,e1,e2,e3⟩) ?_)
 intro t5
 refine n7 (p8 u4 55 9 true (fun x0=>.one (.ag 9 x0)) (fun x0=>j6 x0 (s)) (fun β S w hM hw hG=>let ⟨y,e1,e2,e3⟩:=hG.2.2.2.2.2.2.2.2.2.2.2.2; ⟨S,y,e1,e2,e3⟩) ?_)
 intro t6
 refine z7 (.one (.tp (T3.Flat p q s))) rfl (fun β S w hS hs hw hG=>(kx (a56 hS hG.2.2.1 hG.2.1 hG.1 k1 k2 k4 (by omega)))) ?_
 refine ai1 (p:=¬ T3.Flat p q s) (fun h=>h d5) ?_
 refine n7 (p8 u1 55 9 true (fun x0=>.one (.ag 9 x0)) (fun x0=>j6 x0 (p)) (fun β S w hM hw hG=>let ⟨y,e1,e2,e3⟩:=hG.2.2.2.2.2.2.2.2.2.2.1; ⟨S,y,e1,e2,e3⟩) ?_)
 intro t7
 refine n7 (p8 u2 55 9 true (fun x0=>.one (.ag 9 x0)) (fun x0=>j6 x0 (q)) (fun β S w hM hw hG=>let ⟨y,e1,e2,e3⟩:=hG.2.2.2.2.2.2.2.2.2.2.2.2.1; ⟨S,y,e1,e2,e3⟩) ?_)
 intro t8
 refine n7 (p8 u3 55 9 true (fun x0=>.one (.ag 9 x0)) (fun x0=>j6 x0 (r)) (fun β S w hM hw hG=>let ⟨y,e1,e2,e3⟩:=hG.2.2.2.2.2.2.2.2.2.2.2.2.2.2.1; ⟨S,y,e1,e2,e3⟩) ?_)
 intro t9
 refine O3 (fun x0=>pr (.ag 3 (R5 x0 0)) (.ag 3 (R5 x0 1))) (fun x0=>rrG x0 ((T3.mPart p q r)) ((T3.nPart p q r))) (fun _ _ _ h=>dg7 h) (fun β S w hS hs hw hG=>(kx (hpt hS hG.2.2.1 hG.2.1 hG.1 k1 k2 k3 (by omega)))) ?_
 intro a1
 refine n7 (p8 u1 55 9 true (fun x0=>.one (.ag 9 x0)) (fun x0=>j6 x0 (p)) (fun β S w hM hw hG=>let ⟨y,e1,e2,e3⟩:=hG.2.2.2.2.2.2.2.2.2.2.2.2.2.2.1; ⟨S,y,e1,e2,e3⟩) ?_)
 intro ta
 refine n7 (p8 u2 55 9 true (fun x0=>.one (.ag 9 x0)) (fun x0=>j6 x0 (q)) (fun β S w hM hw hG=>let ⟨y,e1,e2,e3⟩:=hG.2.2.2.2.2.2.2.2.2.2.2.2.2.2.2.2.1; ⟨S,y,e1,e2,e3⟩) ?_)
 intro tb
 refine n7 (p8 u4 55 9 true (fun x0=>.one (.ag 9 x0)) (fun x0=>j6 x0 (s)) (fun β S w hM hw hG=>let ⟨y,e1,e2,e3⟩:=hG.2.2.2.2.2.2.2.2.2.2.2.2.2.2.2.2.2.2.2; ⟨S,y,e1,e2,e3⟩) ?_)
 intro tc
 refine O3 (fun x0=>pr (.ag 3 (R5 x0 0)) (.ag 3 (R5 x0 1))) (fun x0=>rrG x0 ((T3.mPart p q s)) ((T3.nPart p q s))) (fun _ _ _ h=>dg7 h) (fun β S w hS hs hw hG=>(kx (hpt hS hG.2.2.1 hG.2.1 hG.1 k1 k2 k4 (by omega)))) ?_
 intro a2
 refine z7 (.one (.tp (T3.nPart p q s = 0))) rfl (fun β S w hS hs hw hG=>(kx (E7 hS hG.1.2.2))) ?_
 refine R8 (p:=T3.nPart p q s = 0) (fun hb=>?_) (fun hb=>?_)
 ·exact p9 (.agg #[.bool false,.slice none 0 0,.slice none 0 0,.bool true]) rfl (fun S w hs hw hG=>⟨hw,.agg #[.bool false,.slice none 0 0,.slice none 0 0],by rw [← l9 hb]; rfl,by unfold T3.ratioQ; rw [if_pos hb]; exact s8⟩)
 have hmb:=Z6 hm0 hb
 have hf : U5 ((T3.mPart p q s * T3.nPart p q r) / (T3.mPart p q r * T3.nPart p q s)):=Q9 (ag3 (q7 rm2 rn1) (q7 rm1 rn2) (O9 hmb)) (by omega)
 refine q6 10 ?_
 refine d9 2 ?_
 refine q9 (fun x0=>.one (.ag 3 x0)) (fun x0=>b8 x0 ((T3.mPart p q s * T3.nPart p q r))) (fun β η S w hS hs hw hG hd=>(kx (n8 hS hG.1.2.1 hG.2.2.2.2.1.2.2 rm2 rn1))) ?_
 refine d9 2 ?_
 refine q9 (fun x0=>.one (.ag 3 x0)) (fun x0=>b8 x0 ((T3.mPart p q r * T3.nPart p q s))) (fun β η S w hS hs hw hG hd=>(kx (n8 hS hG.2.2.2.2.1.2.1 hG.1.2.2 rm1 rn2))) ?_
 refine h_1 (fun x0=>pr (.ag 3 (F4 x0)) (.lit .i64 0)) (fun x0=>ad7 x0 (((T3.mPart p q s * T3.nPart p q r) / (T3.mPart p q r * T3.nPart p q s))) 0) (fun η=>(by kernel_rfl)) (fun _ _ _ h=>X3 h) (fun β η S w hS hs hw hG hd=>(kx (as6 hf (am5 hS (n9 hd 2 : (b8 (η 2) ((T3.mPart p q s * T3.nPart p q r))).p S w) (n9 hd 5 : (b8 (η 5) ((T3.mPart p q r * T3.nPart p q s))).p S w) (m6 (q7 rm2 rn1)) (m6 (q7 rm1 rn2)) (O9 hmb))))) ?_
 refine d9 2 ?_
 refine q9 (fun x0=>.one (.ag 3 x0)) (fun x0=>b8 x0 (((T3.mPart p q s * T3.nPart p q r) / (T3.mPart p q r * T3.nPart p q s)))) (fun β η S w hS hs hw hG hd=>(kx (Z0 hS (n9 hd 6 : (ad7 (η 6) (((T3.mPart p q s * T3.nPart p q r) / (T3.mPart p q r * T3.nPart p q s))) 0).p S w).2))) ?_
 refine o6 [true,false,false,false] (Gh.nil) (by exact fun _ _ h=>trivial) (fun g η=>(b8 (η 9) (((T3.mPart p q s * T3.nPart p q r) / (T3.mPart p q r * T3.nPart p q s)))).and g) (fun g η=>(by kernel_rfl)) ?_
 intro η_1
 exact p9 ((SV.agg [.ag 3 (η_1 9),.bb false]).den (fun _=>0)) rfl (fun S w hs hw hG=>⟨hw,η_1 9,by rw [← j8 hb]; rfl,by unfold T3.ratioQ; rw [if_neg hb]; exact hG.1.mono fun k _ hk=>hs k hk⟩)
theorem TripV.to {S : Nat → Prop} {w w' : World} {v : Value} {t : T3} (h : TripV S w v t) (k : Ext w w') : TripV S w' v t:=h.keep (.of k)
theorem a45 {S : Nat → Prop} {w : World} {g : Nat} {v : Value} {t : T3} {T : TypeId} {us : List Value} (hS : S g) (hb : Blk w g T us) (hv : TripV S w v t) (e : v = .agg us.toArray) : (A4 (.pointer (some ⟨g,0,none⟩)) t).p S w:=by
 refine ⟨v,hv.lies,⟨g,0,us.toArray,T,(0,0),rfl,hS,hb,by rw [e]; simp [Value.cells],?_⟩,hv⟩
 rw [e]
 simp [Value.cells]
theorem Gh.at' (G : Gh) {S S' : Nat → Prop} {w w' : World} (h : G.p S w) (hs : ∀ k,k < w.heap.size → S k → S' k) (k : Ext w w') : G.p S' w':=G.keep (G.mono h hs) (.of k)
theorem ae5 {n : Nat} {F : Value → Gh} {S : Nat → Prop} {w : World} {u v : Value} {T : TypeId} (h : (ca3 u T (d8 (fun _=>0) [.ag n v])).p S w) (hl : U2 true n v) (hF : (F v).p S w) : (atG true n F u).p S w:=by
 obtain ⟨b,rfl,hs,hB⟩:=h
 rw [U6] at hB
 exact ⟨v,hl,⟨b,0,v.cells.toList.toArray,T,(0,0),rfl,hs,hB,by simp,by rw [List.drop_zero]; exact List.take_of_length_le (Nat.le_refl _)⟩,hF⟩
abbrev bc9 (S : Nat → Prop) (w : World) (Q : (Nat → Prop) → World → Prop) : Prop:=∀ S' w',Up S' w' → Ext w w' → (∀ k,S' k → S k) → (∀ k,k < w.heap.size → S k → S' k) → Q S' w'
namespace T3
def BadR (p q r s : T3) : Prop:=(Same p q ∨ Same p r ∨ Same q r ∨ ¬ Flat p q r) ∨ ¬ Flat p q s
theorem mPart_ne {p q r : T3} (h1 : ¬ Same p q) (h2 : ¬ Same q r) (h3 : Flat p q r) : mPart p q r ≠ 0:=by
 have key : (r.cross q).None → Same q r:=fun ⟨a,b,c⟩=>by
  simp only [cross] at a b c
  refine ⟨?_,?_,?_⟩ <;> simp only [cross] <;> grind
 have hf : (p.cross q).x * (r.cross q).y = (p.cross q).y * (r.cross q).x ∧ (p.cross q).y * (r.cross q).z = (p.cross q).z * (r.cross q).y ∧ (p.cross q).z * (r.cross q).x = (p.cross q).x * (r.cross q).z:=by
  unfold Flat dot at h3
  simp only [cross] at h3 ⊢
  refine ⟨?_,?_,?_⟩ <;> grind
 have dv : ∀ {a b : Rat},b ≠ 0 → a / b = 0 → a = 0:=fun {a b} hb h=>by
  have h4 : a / b * b = a:=Rat.div_mul_cancel hb
  rw [h] at h4
  rw [← h4,Rat.zero_mul]
 intro h
 unfold mPart over1 at h
 split at h
 ·rename_i hx
  have hx0:=dv hx h
  refine h2 (key ⟨hx0,?_,?_⟩)
  ·have e:=hf.1; rw [hx0,Rat.mul_zero] at e; exact (Rat.mul_eq_zero.1 e).resolve_left hx
  have e:=hf.2.2; rw [hx0,Rat.mul_zero] at e; exact (Rat.mul_eq_zero.1 e.symm).resolve_left hx
 rename_i hx
 have hx : (p.cross q).x = 0:=Classical.not_not.1 hx
 split at h
 ·rename_i hy
  have hy0:=dv hy h
  refine h2 (key ⟨?_,hy0,?_⟩)
  ·have e:=hf.1; rw [hx,Rat.zero_mul] at e; exact (Rat.mul_eq_zero.1 e.symm).resolve_left hy
  have e:=hf.2.1; rw [hy0,Rat.mul_zero] at e; exact (Rat.mul_eq_zero.1 e).resolve_left hy
 rename_i hy
 have hy : (p.cross q).y = 0:=Classical.not_not.1 hy
 have hz : (p.cross q).z ≠ 0:=fun hz=>h1 ⟨hx,hy,hz⟩
 have hz0:=dv hz h
 refine h2 (key ⟨?_,?_,hz0⟩)
 ·have e:=hf.2.2; rw [hx,Rat.zero_mul] at e; exact (Rat.mul_eq_zero.1 e).resolve_left hz
 have e:=hf.2.1; rw [hy,Rat.zero_mul] at e; exact (Rat.mul_eq_zero.1 e.symm).resolve_left hz
end T3
open Classical in
noncomputable def ap6 (p q r s : T3) : Int:=if Q6 [p,q,r,s] = 0 then (if T3.BadR p q r s then 61 else 0) else Q6 [p,q,r,s]
theorem do5 {p q r s : T3} (h : ap6 p q r s = 0) : Q6 [p,q,r,s] = 0 ∧ ¬ T3.BadR p q r s:=by
 unfold ap6 at h
 split at h
 ·split at h
  ·omega
  exact ⟨‹_›,‹_›⟩
 exact absurd h ‹_›
theorem cv9 {S : Nat → Prop} {w : World} {u1 u2 u3 u4 : Value} {p q r s : T3} {m : Nat} (ht : Tab w) (hS : Up S w) (o1 : u1.oneCell' = true) (o2 : u2.oneCell' = true) (o3 : u3.oneCell' = true) (o4 : u4.oneCell' = true) (h1 : (A4 u1 p).p S w) (h2 : (A4 u2 q).p S w) (h3 : (A4 u3 r).p S w) (h4 : (A4 u4 s).p S w)
  (k1 : tl p m) (k2 : tl q m) (k3 : tl r m) (k4 : tl s m) (hmm : m ≤ 100) (e0 : ¬ ap6 p q r s = 0) : Pan prog 139 [u1,u2,u3,u4] w (J2 (ap6 p q r s)):=by
 refine J8 (E:=env) (S0:=S) (G:=((A4 u1 p).and ((A4 u2 q).and ((A4 u3 r).and (A4 u4 s))))) (l:=[.one (.val u1),.one (.val u2),.one (.val u3),.one (.val u4)]) func139 rfl rfl rfl ⟨o1,o2,o3,o4,trivial⟩ rfl ⟨h1,h2,h3,h4⟩ ?_
 refine n7 (p8 u1 55 9 true (fun x0=>.one (.ag 9 x0)) (fun x0=>j6 x0 (p)) (fun β S w hM hw hG=>let ⟨y,e1,e2,e3⟩:=hG.1; ⟨S,y,e1,e2,e3⟩) ?_)
 intro y1
 refine n7 (p8 u2 55 9 true (fun x0=>.one (.ag 9 x0)) (fun x0=>j6 x0 (q)) (fun β S w hM hw hG=>let ⟨y,e1,e2,e3⟩:=hG.2.2.1; ⟨S,y,e1,e2,e3⟩) ?_)
 intro y2
 refine n7 (p8 u3 55 9 true (fun x0=>.one (.ag 9 x0)) (fun x0=>j6 x0 (r)) (fun β S w hM hw hG=>let ⟨y,e1,e2,e3⟩:=hG.2.2.2.2.1; ⟨S,y,e1,e2,e3⟩) ?_)
 intro y3
 refine n7 (p8 u4 55 9 true (fun x0=>.one (.ag 9 x0)) (fun x0=>j6 x0 (s)) (fun β S w hM hw hG=>let ⟨y,e1,e2,e3⟩:=hG.2.2.2.2.2.2; ⟨S,y,e1,e2,e3⟩) ?_)
 intro y4
 by_cases hb : Q6 [p,q,r,s] = 0
 ·have e : ap6 p q r s = 61:=by
   unfold ap6 at e0 ⊢
   rw [if_pos hb] at e0 ⊢
   split
   ·rfl
   rename_i g
   rw [if_neg g] at e0
   exact absurd rfl e0
  have hB : T3.BadR p q r s:=Classical.byContradiction fun g=>e0 (by unfold ap6; rw [if_pos hb,if_neg g])
  rw [e]
  refine ac5 (.und) rfl (fun β S w hS hM hs hw hG=>(kx (M2 (ht.to hw) (A8 hS) (H2 (l:=[p,q,r,s]) 1 55 [y1,y2,y3,y4] hM (by kernel_rfl) (dz4 hG.2.2.2.1 hG.2.2.1 hG.2.1 hG.1) (show 4 ≤ maxLen by decide)) (dr5 (D4 k1) (D4 k2) (D4 k3) (D4 k4)) (bo7 hb)))) ?_
  refine n7 (p8 u1 55 9 true (fun x0=>.one (.ag 9 x0)) (fun x0=>j6 x0 (p)) (fun β S w hM hw hG=>let ⟨y,e1,e2,e3⟩:=hG.2.2.2.2.1; ⟨S,y,e1,e2,e3⟩) ?_)
  intro t1
  refine n7 (p8 u2 55 9 true (fun x0=>.one (.ag 9 x0)) (fun x0=>j6 x0 (q)) (fun β S w hM hw hG=>let ⟨y,e1,e2,e3⟩:=hG.2.2.2.2.2.2.1; ⟨S,y,e1,e2,e3⟩) ?_)
  intro t2
  refine n7 (p8 u3 55 9 true (fun x0=>.one (.ag 9 x0)) (fun x0=>j6 x0 (r)) (fun β S w hM hw hG=>let ⟨y,e1,e2,e3⟩:=hG.2.2.2.2.2.2.2.2.1; ⟨S,y,e1,e2,e3⟩) ?_)
  intro t3
  by_cases hL : T3.Same p q ∨ T3.Same p r ∨ T3.Same q r ∨ ¬ T3.Flat p q r
  ·exact av8 (fun β S w hS hs hw hG=>(kx (L5 (dd4 hS hG.2.2.1 hG.2.1 hG.1 k1 k2 k3 (by omega) hL) hw)))
  have d1 : ¬ T3.Same p q:=fun g=>hL (.inl g)
  have d2 : ¬ T3.Same p r:=fun g=>hL (.inr (.inl g))
  have d3 : ¬ T3.Same q r:=fun g=>hL (.inr (.inr (.inl g)))
  have d4 : T3.Flat p q r:=Classical.byContradiction fun g=>hL (.inr (.inr (.inr g)))
  refine z7 (.und) rfl (fun β S w hS hs hw hG=>(kx (bz2 hS hG.2.2.1 hG.2.1 hG.1 k1 k2 k3 (by omega) d1 d2 d3 d4))) ?_
  refine n7 (p8 u1 55 9 true (fun x0=>.one (.ag 9 x0)) (fun x0=>j6 x0 (p)) (fun β S w hM hw hG=>let ⟨y,e1,e2,e3⟩:=hG.2.2.2.2.2.2.2.1; ⟨S,y,e1,e2,e3⟩) ?_)
  intro t4
  refine n7 (p8 u2 55 9 true (fun x0=>.one (.ag 9 x0)) (fun x0=>j6 x0 (q)) (fun β S w hM hw hG=>let ⟨y,e1,e2,e3⟩:=hG.2.2.2.2.2.2.2.2.2.1; ⟨S,y,e1,e2,e3⟩) ?_)
  intro t5
  refine n7 (p8 u4 55 9 true (fun x0=>.one (.ag 9 x0)) (fun x0=>j6 x0 (s)) (fun β S w hM hw hG=>let ⟨y,e1,e2,e3⟩:=hG.2.2.2.2.2.2.2.2.2.2.2.2; ⟨S,y,e1,e2,e3⟩) ?_)
  intro t6
  refine z7 (.one (.tp (T3.Flat p q s))) rfl (fun β S w hS hs hw hG=>(kx (a56 hS hG.2.2.1 hG.2.1 hG.1 k1 k2 k4 (by omega)))) ?_
  refine ad3 (p:=¬ T3.Flat p q s) (hB.resolve_left hL) ?_
  exact av8 (fun β S w hS hs hw hG=>(kx (L5 (X4 (e:=61)) hw)))
 have e : ap6 p q r s = Q6 [p,q,r,s]:=by unfold ap6; rw [if_neg hb]
 rw [e]
 exact bk3 ⟨b9,hS,j5⟩ (by kernel_rfl) (by kernel_rfl) (fun β S w hS hM hs hw hG=>(kx (L5 (cf6 (ht.to hw) (A8 hS) (H2 (l:=[p,q,r,s]) 1 55 [y1,y2,y3,y4] hM (by kernel_rfl) (dz4 hG.2.2.2.1 hG.2.2.1 hG.2.1 hG.1) (show 4 ≤ maxLen by decide)) (dr5 (D4 k1) (D4 k2) (D4 k3) (D4 k4)) hb) hw)))
theorem d97 {S : Nat → Prop} {w : World} (F : FuncId) [ci : CallI prog F] (cap : List Value) {t : Rat} {p : Prop} {E : Int} (hS : Up S w) (h0 : E = 0 → bc9 S w fun S' w'=>Gives prog F cap w' fun v w''=>Ext w' w'' ∧ RatioV S' w'' v t p) (h1 : ¬ E = 0 → bc9 S w fun S' w'=>Pan prog F cap w' (J2 E)) :
  Gives prog 138 [.func (.func F) #[] cap.toArray] w fun v' w'=>Ext w w' ∧ ∃ x,v' = .tuple #[x,.int .i64 E] ∧ RatioV S w' x (if E = 0 then t else 0) (E = 0 ∧ p):=by
 by_cases e : E = 0
 ·refine (bh0 (F:=F) (cap:=cap) (t:=t) (p:=p) (E:=0) (Y:=True) (Z:=False) hS fun S' w' hS' k' hs hs'=>Gives.toE ((h0 e S' w' hS' k' hs hs').mono fun v w'' h=>⟨h.1,h.2,trivial⟩)).mono ?_
  rintro v' w' ⟨k',h⟩
  obtain ⟨x,rfl,h,_⟩:=h.resolve_right fun h=>h.2
  refine ⟨k',x,by rw [e],?_⟩
  rw [if_pos e,show (E = 0 ∧ p) = p from propext ⟨fun h=>h.2,fun h=>⟨e,h⟩⟩]
  exact h
 refine (bh0 (F:=F) (cap:=cap) (t:=t) (p:=p) (E:=E) (Y:=False) (Z:=True) hS fun S' w' hS' k' hs hs'=>(h1 e S' w' hS' k' hs hs').mono (fun _ _ h=>h.elim) fun ch w'' h=>⟨h.1,h.2,trivial⟩).mono ?_
 rintro v' w' ⟨k',⟨x,rfl,h,hf⟩ | ⟨rfl,_⟩⟩
 ·exact hf.elim
 refine ⟨k',_,rfl,?_⟩
 rw [if_neg e]
 refine ⟨.agg #[.bool false,.slice none 0 0,.slice none 0 0],?_,s8⟩
 have e2 : tst (E = 0 ∧ p) = false:=j8 fun h=>e h.1
 show (Value.agg Z9.toArray) = _
 rw [show (SV.agg [.ag 3 (.agg #[.bool false,.slice none 0 0,.slice none 0 0]),.tp (E = 0 ∧ p)]).den (fun _=>0) = .agg #[.bool false,.slice none 0 0,.slice none 0 0,.bool (tst (E = 0 ∧ p))] from by simp [SV.den,d8,Ch.cells,Ch.den,Value.cells],e2]
 rfl
noncomputable def dk6 (p q r s : T3) : Rat:=if ap6 p q r s = 0 then T3.ratioQ p q r s else 0
def ca1 (p q r s : T3) : Prop:=ap6 p q r s = 0 ∧ T3.nPart p q s = 0
theorem cy6 {S : Nat → Prop} {w : World} {vp vq vr vs : Value} {p q r s : T3} {m : Nat} (ht : Tab w) (hS : Up S w) (hp : TripV S w vp p) (hq : TripV S w vq q) (hr : TripV S w vr r) (hs : TripV S w vs s)
  (k1 : tl p m) (k2 : tl q m) (k3 : tl r m) (k4 : tl s m) (hmm : m ≤ 100) :
  Gives prog 89 [vp,vq,vr,vs] w fun v' w'=>Ext w w' ∧ ∃ x,v' = .tuple #[x,.bool (tst (ca1 p q r s)),.int .i64 (ap6 p q r s)] ∧ RatV S w' x (dk6 p q r s):=by
 unfold ca1
 obtain ⟨us1,e1,l1,n1⟩:=hp.ok
 obtain ⟨us2,e2,l2,n2⟩:=hq.ok
 obtain ⟨us3,e3,l3,n3⟩:=hr.ok
 obtain ⟨us4,e4,l4,n4⟩:=hs.ok
 refine l7 func89 rfl rfl rfl ?_
 repeat refine wW ?_
 refine bp6 (v:=vp) (cs:=us1) rfl (by rw [e1]; rfl) ?_
 intro w1 g1 x1 hg1 hgs1
 have y1:=hg1.lt
 refine bp6 (v:=vq) (cs:=us2) rfl (by rw [e2]; rfl) ?_
 intro w2 g2 x2 hg2 hgs2
 have y2:=hg2.lt
 refine bp6 (v:=vr) (cs:=us3) rfl (by rw [e3]; rfl) ?_
 intro w3 g3 x3 hg3 hgs3
 have y3:=hg3.lt
 refine bp6 (v:=vs) (cs:=us4) rfl (by rw [e4]; rfl) ?_
 intro w4 g4 x4 hg4 hgs4
 have y4:=hg4.lt
 refine r5 (cs:=[.bool false,.slice none 0 0,.slice none 0 0]) rfl ?_
 intro w5 g5 x5 hg5 hgs5
 have z1:=x1.size
 have z2:=x2.size
 have z3:=x3.size
 have z4:=x4.size
 have z5:=x5.size
 have K:=(((x1.trans x2).trans x3).trans x4).trans x5
 have hl5:=hg5.lt
 replace hg1:=(((hg1.to x2).to x3).to x4).to x5
 replace hg2:=((hg2.to x3).to x4).to x5
 replace hg3:=(hg3.to x4).to x5
 replace hg4:=hg4.to x5
 have hS2 : Up (fun k=>S k ∧ k ≠ g5) w5:=fun i hi=>⟨hS i (by omega),by omega⟩
 have up : ∀ {v : Value} {t : T3},TripV S w v t → TripV (fun k=>S k ∧ k ≠ g5) w5 v t:=fun h=>(h.mono (S':=fun k=>S k ∧ k ≠ g5) fun i hi hs=>⟨hs,by omega⟩).to K
 have t1:=a45 (S:=fun k=>S k ∧ k ≠ g5) ⟨hS g1 hgs1,by omega⟩ hg1 (up hp) e1
 have t2:=a45 (S:=fun k=>S k ∧ k ≠ g5) ⟨hS g2 (by omega),by omega⟩ hg2 (up hq) e2
 have t3:=a45 (S:=fun k=>S k ∧ k ≠ g5) ⟨hS g3 (by omega),by omega⟩ hg3 (up hr) e3
 have t4:=a45 (S:=fun k=>S k ∧ k ≠ g5) ⟨hS g4 (by omega),by omega⟩ hg4 (up hs) e4
 have key0 : ap6 p q r s = 0 → bc9 (fun k=>S k ∧ k ≠ g5) w5 fun S' w'=>Gives prog 139 [.pointer (some ⟨g1,0,none⟩),.pointer (some ⟨g2,0,none⟩),.pointer (some ⟨g3,0,none⟩),.pointer (some ⟨g4,0,none⟩)] w' fun v w''=>Ext w' w'' ∧ RatioV S' w'' v (T3.ratioQ p q r s) (T3.nPart p q s = 0):=by
  intro e S' w' hS' k' _ hs'
  obtain ⟨e1,e2⟩:=do5 e
  have eb:=bo7 e1
  have d1 : ¬ T3.Same p q:=fun g=>e2 (.inl (.inl g))
  have d2 : ¬ T3.Same p r:=fun g=>e2 (.inl (.inr (.inl g)))
  have d3 : ¬ T3.Same q r:=fun g=>e2 (.inl (.inr (.inr (.inl g))))
  have d4 : T3.Flat p q r:=Classical.byContradiction fun g=>e2 (.inl (.inr (.inr (.inr g))))
  have d5 : T3.Flat p q s:=Classical.byContradiction fun g=>e2 (.inr g)
  exact cy2 (fun {S w vp vq vr r m} a1 a2 a3 a4 a5 a6 a7 a8=>c80 a1 a2 a3 a4 a5 a6 a7 a8 d1) (ht.to (K.trans k')) hS' rfl rfl rfl rfl ((A4 _ p).at' t1 hs' k') ((A4 _ q).at' t2 hs' k') ((A4 _ r).at' t3 hs' k') ((A4 _ s).at' t4 hs' k') k1 k2 k3 k4 hmm (eb p (by simp)) (eb q (by simp)) (eb r (by simp)) (eb s (by simp)) d1 d2 d3 d4 d5 (T3.mPart_ne d1 d3 d4)
 have key1 : ¬ ap6 p q r s = 0 → bc9 (fun k=>S k ∧ k ≠ g5) w5 fun S' w'=>Pan prog 139 [.pointer (some ⟨g1,0,none⟩),.pointer (some ⟨g2,0,none⟩),.pointer (some ⟨g3,0,none⟩),.pointer (some ⟨g4,0,none⟩)] w' (J2 (ap6 p q r s)):=by
  intro e S' w' hS' k' _ hs'
  exact cv9 (ht.to (K.trans k')) hS' rfl rfl rfl rfl ((A4 _ p).at' t1 hs' k') ((A4 _ q).at' t2 hs' k') ((A4 _ r).at' t3 hs' k') ((A4 _ s).at' t4 hs' k') k1 k2 k3 k4 hmm e
 repeat (first | refine ar5 ?_ | refine wW ?_)
 refine j1 (d97 139 [.pointer (some ⟨g1,0,none⟩),.pointer (some ⟨g2,0,none⟩),.pointer (some ⟨g3,0,none⟩),.pointer (some ⟨g4,0,none⟩)] hS2 key0 key1) rfl ?_
 rintro v6 w6 ⟨x6,x,rfl,hx⟩
 obtain ⟨y,rfl,hy⟩:=hx
 obtain ⟨ys,ey,ly,ny⟩:=hy.ok
 subst ey
 obtain ⟨c1,c2,c3,rfl⟩ : ∃ c1 c2 c3,ys = [c1,c2,c3]:=by
  match ys,ly with
  | [c1,c2,c3],_=>exact ⟨c1,c2,c3,rfl⟩
 replace hg5:=hg5.to x6
 have z6:=x6.size
 repeat (first | refine r7 ?_ | refine D6 rfl rfl ?_)
 refine r5 (cs:=Z9) rfl ?_
 intro w7 g7 x7 hg7 hgs7
 replace hg5:=hg5.to x7
 refine A5 (us:=[c1,c2,c3,.bool (tst (ap6 p q r s = 0 ∧ T3.nPart p q s = 0))]) rfl (by conv=>(lhs; whnf)) rfl rfl hg7 rfl (fun v hv=>by
  simp only [List.mem_cons,List.not_mem_nil,or_false] at hv
  rcases hv with rfl | rfl | rfl | rfl
  ·exact ny _ (by simp)
  ·exact ny _ (by simp)
  ·exact ny _ (by simp)
  rfl) ?_
 intro w8 x8 hg8
 have hne : g7 ≠ g5:=by omega
 replace hg5:=hg5.wr x8 (fun e=>hne e.symm)
 have hy6:=hy.mono (S':=fun k=>(S k ∧ k ≠ g5) ∧ k < w6.heap.size) (fun i hi h=>⟨h,hi⟩)
 have hy8 : RatV (fun k=>(S k ∧ k ≠ g5) ∧ k < w6.heap.size) w8 (.agg #[c1,c2,c3]) (dk6 p q r s):=(hy6.keep (.of x7)).keep (x8.mono fun i hi=>by have:=hi.2; omega)
 repeat refine wW ?_
 refine am3 (R:=OneW g5 53 [.bool false,.slice none 0 0,.slice none 0 0] [c1,c2,c3]) 7 OneW.trans OneW.drew (by kernel_rfl) (by kernel_rfl) ?_
 apply F1
 ·intro x w1 k1 hd
  refine l6 rfl ?_
  refine d6 ?_
  exact Q4 OneW.refl
 apply F1
 ·intro x w1 k1 hd
  refine E5 rfl (hg8.wr k1.1 hne) rfl rfl ?_
  refine d6 ?_
  exact Q4 OneW.refl
 apply F1
 ·intro x w1 k1 hd
  refine l6 rfl ?_
  refine d6 ?_
  exact Q4 OneW.refl
 apply F1
 ·intro x w1 k1 hd
  refine i1 rfl (hg8.wr k1.1 hne) rfl ?_
  refine d6 ?_
  exact Q4 OneW.refl
 apply F1
 ·intro x w1 k1 hd
  refine cc6 rfl ?_
  refine d6 ?_
  exact Q4 OneW.refl
 refine F1 (e:=EntR.of (fun v w=>Blk w g5 53 [c1,c2,c3]) (fun v w w' h k=>k.2.2 h)) ?_ ?_
 ·intro x w1 k1 hd
  rcases k1.2.1 (.inl hg5) with hgx | hgx
  ·refine A5 (us:=[c1,c2,c3]) rfl (by conv=>(lhs; whnf)) rfl rfl hgx rfl ny ?_
   intro w12 k12 hg12
   exact d6 (U7 (OneW.wrote k12 hg12) hg12)
  refine A5 (us:=[c1,c2,c3]) rfl (by conv=>(lhs; whnf)) rfl rfl hgx rfl ny ?_
  intro w12 k12 hg12
  exact d6 (U7 (OneW.wrote k12 hg12) hg12)
 apply F1
 ·intro x w1 k1 hd
  refine b15 rfl ?_
  refine d6 ?_
  exact Q4 OneW.refl
 refine a19 (a64 ?_)
 intro x w12 k12 hall
 have h14:=hall.2.1
 repeat refine wW ?_
 refine c73 rfl (o7 h14 rfl) (D8 (by conv=>(lhs; whnf))) (D8 (by conv=>(lhs; whnf))) ⟨?_,_,rfl,?_⟩
 ·exact ((Keeps.past ((K.trans x6).trans x7) x8 (by omega)).past k12.1 (by omega))
 exact (hy8.keep (k12.1.mono fun i hi=>hi.1.2)).mono fun i _ hi=>hi.1.1
abbrev bu9 (v : Value) (t : T3) : Gh:=⟨fun S w=>v = .tuple #[R5 v 0,.int .i64 0] ∧ (O5 (R5 v 0) t).p S w,fun h k=>⟨h.1,(O5 _ t).keep h.2 k⟩,fun h k=>⟨h.1,(O5 _ t).mono h.2 k⟩⟩
theorem cr3 {v : Value} {t : T3} {S : Nat → Prop} {w : World} (h : (bu9 v t).p S w) : (SV.tup [(true,[.ag 3 (cel (R5 v 0) 0 3),.ag 3 (cel (R5 v 0) 3 3),.ag 3 (cel (R5 v 0) 6 3)]),(false,[.lit .i64 0])]).Ok 0 ∧ (SV.tup [(true,[.ag 3 (cel (R5 v 0) 0 3),.ag 3 (cel (R5 v 0) 3 3),.ag 3 (cel (R5 v 0) 6 3)]),(false,[.lit .i64 0])]).den (fun _=>0) = v:=by
 refine ⟨fun p hp c hc=>?_,?_⟩
 ·simp only [List.mem_cons,List.not_mem_nil,or_false] at hp
  rcases hp with rfl | rfl
  ·exact (W5 h.2).1 c hc
  simp only [List.mem_cons,List.not_mem_nil,or_false] at hc
  subst hc
  trivial
 conv=>rhs; rw [h.1,h.2.1]
 rfl
theorem c31 {v : Value} {t : T3} {S : Nat → Prop} {w : World} (h : (J9 v t 0).p S w) : (bu9 v t).p S w:=⟨h.1,bn9 h.2⟩
abbrev dw4 (v : Value) (q : Rat) : Gh:=⟨fun S w=>v = .tuple #[R5 v 0,.bool false,.int .i64 0] ∧ RatV S w (R5 v 0) q,fun h k=>⟨h.1,h.2.keep k⟩,fun h k=>⟨h.1,h.2.mono k⟩⟩
theorem dn2 {v : Value} {q : Rat} {S : Nat → Prop} {w : World} (h : (dw4 v q).p S w) : (SV.tup [(true,[.ag 3 (R5 v 0)]),(false,[.bb false]),(false,[.lit .i64 0])]).Ok 0 ∧ (SV.tup [(true,[.ag 3 (R5 v 0)]),(false,[.bb false]),(false,[.lit .i64 0])]).den (fun _=>0) = v:=by
 refine ⟨fun p hp c hc=>?_,?_⟩
 ·simp only [List.mem_cons,List.not_mem_nil,or_false] at hp
  rcases hp with rfl | rfl | rfl <;> (simp only [List.mem_cons,List.not_mem_nil,or_false] at hc; subst hc)
  ·exact h.2.okc
  ·trivial
  trivial
 conv=>rhs; rw [h.1]
 obtain ⟨m,b,hv,_⟩:=h.2
 rw [hv]
 rfl
theorem a99 {t : T3} : M9 t.list ↔ t.None:=by
 unfold M9 T3.None T3.list
 simp only [List.mem_cons,List.not_mem_nil,or_false,not_exists,not_and,Classical.not_not,forall_eq_or_imp,forall_eq]
theorem b67 {q : Rat} {k : Nat} (h : rl q k) (hk : k ≤ 4) : ¬ aa6 q:=by
 have h2:=M1 q.num.natAbs (show dl q.num.natAbs ≤ k from h.1)
 have h3:=M1 q.den (show dl q.den ≤ k from h.2)
 unfold aa6
 omega
theorem ai6 {t : T3} {k : Nat} (h : tl t k) (hk : k ≤ 4) (hn : ¬ t.None) : D5 t = 0:=by
 unfold D5
 rw [if_neg (fun e=>hn (a99.1 e)),if_neg]
 rintro ⟨x,hx,hl⟩
 exact b67 (bf0 h x hx) hk hl
def P1 : T3:=⟨1,0,0⟩
def P2 : T3:=⟨0,2,0⟩
def P3 : T3:=⟨1,1,0⟩
def P4 : T3:=⟨1,2,0⟩
theorem N3 {q : Rat} (h1 : q.num.natAbs < 1000000000) (h2 : q.den < 1000000000) : rl q 1:=⟨M7 (k:=1) (by omega),M7 (k:=1) (by omega)⟩
theorem b18 : tl P1 1:=⟨N3 (by decide) (by decide),N3 (by decide) (by decide),N3 (by decide) (by decide)⟩
theorem cp7 : tl P2 1:=⟨N3 (by decide) (by decide),N3 (by decide) (by decide),N3 (by decide) (by decide)⟩
theorem c41 : tl P3 1:=⟨N3 (by decide) (by decide),N3 (by decide) (by decide),N3 (by decide) (by decide)⟩
theorem dg8 : tl P4 1:=⟨N3 (by decide) (by decide),N3 (by decide) (by decide),N3 (by decide) (by decide)⟩
theorem cg0 : D5 P1 = 0:=ai6 b18 (by decide) (by decide +kernel)
theorem c79 : D5 P2 = 0:=ai6 cp7 (by decide) (by decide +kernel)
theorem du3 : D5 P3 = 0:=ai6 c41 (by decide) (by decide +kernel)
theorem d10 : D5 P4 = 0:=ai6 dg8 (by decide) (by decide +kernel)
theorem cm8 : ¬ T3.Same P1 P2:=by decide +kernel
theorem dj4 : ¬ T3.Same P1 P3:=by decide +kernel
theorem dj9 : ¬ T3.Same P2 P3:=by decide +kernel
theorem de6 : T3.Flat P1 P2 P3:=by decide +kernel
theorem dc1 : T3.Flat P1 P2 P4:=by decide +kernel
theorem cp9 : (P1.cross P2).normal = ⟨0,0,1⟩:=by
 have h : (P1.cross P2).normal.x = 0 ∧ (P1.cross P2).normal.y = 0 ∧ (P1.cross P2).normal.z = 1:=by decide +kernel
 exact T3.ext h.1 h.2.1 h.2.2
def L1 : T3:=⟨0,0,1⟩
theorem co3 : tl L1 1:=⟨N3 (by decide) (by decide),N3 (by decide) (by decide),N3 (by decide) (by decide)⟩
theorem d17 : D5 L1 = 0:=ai6 co3 (by decide) (by decide +kernel)
theorem du2 : X6 P1 P2 = 0:=by unfold X6; rw [if_pos cg0,c79]
theorem by2 : ac0 P1 P2 = 0:=by unfold ac0; rw [if_pos du2,if_neg cm8]
theorem c83 : a06 P1 P2 = L1:=by unfold a06; rw [if_pos by2,cp9]; rfl
theorem c03 : X6 P1 L1 = 0:=by unfold X6; rw [if_pos cg0,d17]
theorem d92 : OnP P1 L1:=⟨c03,by decide +kernel⟩
theorem nP : ¬ T3.nPart P1 P2 P4 = 0:=by decide +kernel
theorem da4 : T3.ratioQ P1 P2 P3 P4 = 1 / 2:=by decide +kernel
theorem b71 : ap6 P1 P2 P3 P4 = 0:=by
 have h : Q6 [P1,P2,P3,P4] = 0:=by
  unfold Q6
  rw [if_pos cg0]
  unfold Q6
  rw [if_pos c79]
  unfold Q6
  rw [if_pos du3]
  unfold Q6
  rw [if_pos d10]
  rfl
 unfold ap6
 rw [if_pos h,if_neg]
 rintro ((g | g | g | g) | g)
 ·exact cm8 g
 ·exact dj4 g
 ·exact dj9 g
 ·exact g de6
 exact g dc1
theorem dh0 : ¬ ca1 P1 P2 P3 P4:=fun h=>nP h.2
theorem cr6 : dk6 P1 P2 P3 P4 = 1 / 2:=by unfold dk6; rw [if_pos b71,da4]
theorem cu6 : U8 (1 / 2 : Rat) = [49,47,50]:=by
 have h1 : (1 / 2 : Rat).num = 1:=by decide +kernel
 have h2 : (1 / 2 : Rat).den = 2:=by decide +kernel
 unfold U8 Lib.itoa
 rw [h1,h2,if_neg (by decide),if_neg (by decide),show (1 : Int).toNat = 1 from rfl,Lib.decDigits_one (by decide),Lib.decDigits_one (by decide)]
 rfl
theorem dr3 : U8 (1 : Rat) = [49]:=by
 have h1 : (1 : Rat).num = 1:=rfl
 have h2 : (1 : Rat).den = 1:=rfl
 unfold U8 Lib.itoa
 rw [h1,h2,if_neg (by decide),if_pos rfl,show (1 : Int).toNat = 1 from rfl,Lib.decDigits_one (by decide)]
 rfl
theorem b81 {S : Nat → Prop} {w : World} (hS : Up S w) : Gives prog 45 [.int .i64 1,.int .i64 1] w fun v' w'=>Ext w w' ∧ QV S w' v' (1 : Rat):=ad8 (a:=1) hS (by decide) (by decide)
theorem dt4 {S : Nat → Prop} {w : World} (hS : Up S w) : Gives prog 45 [.int .i64 2,.int .i64 1] w fun v' w'=>Ext w w' ∧ QV S w' v' (2 : Rat):=ad8 (a:=2) hS (by decide) (by decide)
theorem b73 {w : World} (ht : Tab w) : Gives prog 28 [] w fun v' w'=>v' = .bool true ∧ Ext w w':=by
 have hS : Up All w:=Up.all
 refine p7 (E:=env) (S0:=All) (G:=Gh.nil) (l:=[]) func28 rfl rfl rfl trivial rfl trivial ?_
 refine E9 (fun x0=>.one (.ag 4 x0)) (fun x0=>qG x0 ((1 : Rat))) (fun β S w hS hs hw hG=>(kx (b81 hS))) ?_
 intro v1
 refine E9 (fun x0=>.one (.ag 4 x0)) (fun x0=>qG x0 ((0 : Rat))) (fun β S w hS hs hw hG=>(kx (ct2 hS))) ?_
 intro v2
 refine E9 (fun x0=>.one (.ag 4 x0)) (fun x0=>qG x0 ((0 : Rat))) (fun β S w hS hs hw hG=>(kx (ct2 hS))) ?_
 intro v3
 refine E9 (fun x0=>.one (.ag 9 x0)) (fun x0=>j6 x0 (P1)) (fun β S w hS hs hw hG=>(kx (O4 hS ⟨v1,v2,v3,rfl,hG.2.2.1,hG.2.1,hG.1⟩ b18 (by decide)))) ?_
 intro p
 refine E9 (fun x0=>.one (.ag 4 x0)) (fun x0=>qG x0 ((0 : Rat))) (fun β S w hS hs hw hG=>(kx (ct2 hS))) ?_
 intro v4
 refine E9 (fun x0=>.one (.ag 4 x0)) (fun x0=>qG x0 ((2 : Rat))) (fun β S w hS hs hw hG=>(kx (dt4 hS))) ?_
 intro v5
 refine E9 (fun x0=>.one (.ag 4 x0)) (fun x0=>qG x0 ((0 : Rat))) (fun β S w hS hs hw hG=>(kx (ct2 hS))) ?_
 intro v6
 refine E9 (fun x0=>.one (.ag 9 x0)) (fun x0=>j6 x0 (P2)) (fun β S w hS hs hw hG=>(kx (O4 hS ⟨v4,v5,v6,rfl,hG.2.2.1,hG.2.1,hG.1⟩ cp7 (by decide)))) ?_
 intro q
 refine O3 (fun x0=>.tup [(true,[.ag 3 (cel (R5 x0 0) 0 3),.ag 3 (cel (R5 x0 0) 3 3),.ag 3 (cel (R5 x0 0) 6 3)]),(false,[.lit .i64 0])]) (fun x0=>bu9 x0 (L1)) (fun _ _ _ h=>cr3 h) (fun β S w hS hs hw hG=>(kx ((dm7 (k:=1) (ht.to hw) hS hG.2.2.2.2.1 hG.1 b18 cp7 (by decide) (by rw [cp9]; exact co3) (by decide)).mono fun v' w' h=>⟨h.1,c31 (by have h2:=h.2; rw [by2,c83] at h2; exact h2)⟩))) ?_
 intro j
 refine z7 (pr (.bb true) (.lit .i64 0)) rfl (fun β S w hS hs hw hG=>(kx (gK (cm3 (ht.to hw) hS hG.2.2.2.2.2.1 ⟨_,_,_,rfl,hG.1.2.2.1,hG.1.2.2.2.1,hG.1.2.2.2.2⟩ b18 co3 (by decide)) (by rw [l9 d92,c03]; rfl)))) ?_
 refine q6 20 ?_
 refine d9 2 ?_
 refine q9 (fun x0=>.one (.ag 4 x0)) (fun x0=>qG x0 ((1 : Rat))) (fun β η S w hS hs hw hG hd=>(kx (b81 hS))) ?_
 refine q9 (fun x0=>.one (.ag 4 x0)) (fun x0=>qG x0 ((1 : Rat))) (fun β η S w hS hs hw hG hd=>(kx (b81 hS))) ?_
 refine q9 (fun x0=>.one (.ag 4 x0)) (fun x0=>qG x0 ((0 : Rat))) (fun β η S w hS hs hw hG hd=>(kx (ct2 hS))) ?_
 refine co9 (fun x0=>.one (.ag 12 x0)) (fun x0=>A9 x0 (P3)) ⟨b9,hS,j5⟩ (fun η=>(by kernel_rfl)) (fun η=>(by kernel_rfl)) (fun β η S w hS hM hs hw hG hd=>have hF : (A9 (cz1 (η 2) (η 3) (η 4)) (P3)).p S w:=⟨_,_,_,rfl,(n9 hd 2 : (qG (η 2) ((1 : Rat))).p S w),(n9 hd 3 : (qG (η 3) ((1 : Rat))).p S w),(n9 hd 4 : (qG (η 4) ((0 : Rat))).p S w)⟩; have hK : ∀ (x0 : Value) (S : Nat → Prop) (w : World),(A9 x0 (P3)).p S w → (.one (.ag 12 x0) : SV).Ok 0 ∧ (.one (.ag 12 x0) : SV).den (fun _=>0) = x0:=(fun _ _ _ h=>⟨h.ok,rfl⟩); ⟨(cz1 (η 2) (η 3) (η 4)),(by kernel_rfl),(hK _ S w hF).2.symm,(hK _ S w hF).1,hF⟩) ?_
 refine q9 (fun x0=>.one (.ag 9 x0)) (fun x0=>j6 x0 (P3)) (fun β η S w hS hs hw hG hd=>(kx (O4 hS (n9 hd 5 : (A9 (η 5) (P3)).p S w) c41 (by decide)))) ?_
 refine q9 (fun x0=>.one (.ag 4 x0)) (fun x0=>qG x0 ((1 : Rat))) (fun β η S w hS hs hw hG hd=>(kx (b81 hS))) ?_
 refine q9 (fun x0=>.one (.ag 4 x0)) (fun x0=>qG x0 ((2 : Rat))) (fun β η S w hS hs hw hG hd=>(kx (dt4 hS))) ?_
 refine q9 (fun x0=>.one (.ag 4 x0)) (fun x0=>qG x0 ((0 : Rat))) (fun β η S w hS hs hw hG hd=>(kx (ct2 hS))) ?_
 refine co9 (fun x0=>.one (.ag 12 x0)) (fun x0=>A9 x0 (P4)) ⟨b9,hS,j5⟩ (fun η=>(by kernel_rfl)) (fun η=>(by kernel_rfl)) (fun β η S w hS hM hs hw hG hd=>have hF : (A9 (cz1 (η 7) (η 8) (η 9)) (P4)).p S w:=⟨_,_,_,rfl,(n9 hd 7 : (qG (η 7) ((1 : Rat))).p S w),(n9 hd 8 : (qG (η 8) ((2 : Rat))).p S w),(n9 hd 9 : (qG (η 9) ((0 : Rat))).p S w)⟩; have hK : ∀ (x0 : Value) (S : Nat → Prop) (w : World),(A9 x0 (P4)).p S w → (.one (.ag 12 x0) : SV).Ok 0 ∧ (.one (.ag 12 x0) : SV).den (fun _=>0) = x0:=(fun _ _ _ h=>⟨h.ok,rfl⟩); ⟨(cz1 (η 7) (η 8) (η 9)),(by kernel_rfl),(hK _ S w hF).2.symm,(hK _ S w hF).1,hF⟩) ?_
 refine q9 (fun x0=>.one (.ag 9 x0)) (fun x0=>j6 x0 (P4)) (fun β η S w hS hs hw hG hd=>(kx (O4 hS (n9 hd 10 : (A9 (η 10) (P4)).p S w) dg8 (by decide)))) ?_
 refine h_1 (fun x0=>.tup [(true,[.ag 3 (R5 x0 0)]),(false,[.bb false]),(false,[.lit .i64 0])]) (fun x0=>dw4 x0 ((1 / 2 : Rat))) (fun η=>(by kernel_rfl)) (fun _ _ _ h=>dn2 h) (fun β η S w hS hs hw hG hd=>(kx ((cy6 (ht.to hw) hS hG.2.2.2.2.2.1 hG.2.1 (n9 hd 6 : (j6 (η 6) (P3)).p S w) (n9 hd 11 : (j6 (η 11) (P4)).p S w) b18 cp7 c41 dg8 (by decide)).mono fun v' w' h=>⟨h.1,let ⟨x,e,hx⟩:=h.2; ⟨by rw [e,j8 dh0,b71]; rfl,by rw [e]; rw [cr6] at hx; exact hx⟩⟩))) ?_
 refine d9 7 ?_
 refine o6 [true,false,false,false,false,false,false,false,false,false,false] ((bu9 j (L1)).and (Gh.nil)) (by exact fun _ _ h=>⟨h.1,trivial⟩) (fun g η=>(dw4 (η 12) ((1 / 2 : Rat))).and g) (fun g η=>(by kernel_rfl)) ?_
 intro η_1
 refine z7 (.one (.str [49])) rfl (fun β S w hS hs hw hG=>(kx (gK (da8 (ht.to hw) hG.2.1.2.2.2.2 (O1 co3.2.2 (by decide))) (congrArg G5 dr3)))) ?_
 refine ax0 (p:=([49] : List UInt8) = [49]) 68 ⟨b9,hS,j5⟩ (by kernel_rfl) (by kernel_rfl) (rfl) ?_
 refine z7 (.one (.str [49,47,50])) rfl (fun β S w hS hs hw hG=>(kx (gK (da8 (ht.to hw) hG.1.2 (O1 (N3 (by decide +kernel) (by decide +kernel)) (by decide))) (congrArg G5 cu6)))) ?_
 refine ax0 (p:=([49,47,50] : List UInt8) = [49,47,50]) 73 ⟨b9,hS,j5⟩ (by kernel_rfl) (by kernel_rfl) (rfl) ?_
 exact p9 (.bool true) rfl (fun S w hs hw hG=>⟨rfl,hw⟩)
end Go.Proofs.YtmkhgjccoolfjaaGreatDoor
end
