/- Integers in memory. -/
import Derived.Test.YtpmnjjmngogkkaaGreatDoorMag8
set_option linter.unusedVariables false
namespace Go.Proofs.YtpmnjjmngogkkaaGreatDoor
open Go Go.RowKit

theorem tst_congr {p q : Prop} (h : p ↔ q) : tst p = tst q := by rw [propext h]
/-- v is the integer z. -/
def IntV (S : Nat → Prop) (T : TypeId) (k : IntKind) (w : World) (v : Value) (z : Int) : Prop := ∃ m, v = .agg #[.bool (tst (z < 0)), m] ∧ NatV S T k w m z.natAbs
theorem IntV.keep {S : Nat → Prop} {T : TypeId} {kd : IntKind} {w w' : World} {v : Value} {z : Int} (h : IntV S T kd w v z) (k : Keeps S w w') : IntV S T kd w' v z := let ⟨m, h1, h2⟩ := h; ⟨m, h1, h2.keep k⟩
theorem IntV.to {S : Nat → Prop} {T : TypeId} {kd : IntKind} {w w' : World} {v : Value} {z : Int} (h : IntV S T kd w v z) (k : Ext w w') : IntV S T kd w' v z := let ⟨m, h1, h2⟩ := h; ⟨m, h1, h2.to k⟩
theorem IntV.mono {S S' : Nat → Prop} {T : TypeId} {kd : IntKind} {w : World} {v : Value} {z : Int} (h : IntV S T kd w v z) (hs : ∀ k, k < w.heap.size → S k → S' k) : IntV S' T kd w v z := let ⟨m, h1, h2⟩ := h; ⟨m, h1, h2.mono hs⟩
theorem ones2 {a b : Value} (h1 : a.oneCell' = true) (h2 : b.oneCell' = true) : ∀ v ∈ [a, b], v.oneCell' = true := fun v hv => by
  simp only [List.mem_cons, List.not_mem_nil, or_false] at hv
  rcases hv with rfl | rfl <;> assumption

/-- What lay before stays when a new block is written. -/
theorem Row.past {S : Nat → Prop} {T : TypeId} {s : Nat} {w w1 w2 : World} {v : Value} {n g : Nat} {cs : List Value} (h : Row S T s w v n cs) (k1 : Ext w w1) (k2 : Wrt g w1 w2) (hg : w.heap.size ≤ g) : Row S T s w2 v n cs :=
  (((h.mono (S' := fun k => S k ∧ k ≠ g) fun i hi hs => ⟨hs, by omega⟩).to k1).keep (k2.mono fun i hi => hi.2)).mono fun i _ hi => hi.1
theorem IntV.past {S : Nat → Prop} {T : TypeId} {kd : IntKind} {w w1 w2 : World} {v : Value} {z : Int} {g : Nat} (h : IntV S T kd w v z) (k1 : Ext w w1) (k2 : Wrt g w1 w2) (hg : w.heap.size ≤ g) : IntV S T kd w2 v z := let ⟨m, h1, h2⟩ := h; ⟨m, h1, h2.past k1 k2 hg⟩
theorem Ext.past {w w1 w2 : World} {g : Nat} (k1 : Ext w w1) (k2 : Wrt g w1 w2) (hg : w.heap.size ≤ g) : Ext w w2 := Keeps.later k1 k2 fun i hi _ => by omega
theorem Keeps.past {w w1 w2 : World} {g : Nat} (k1 : Keeps All w w1) (k2 : Wrt g w1 w2) (hg : w.heap.size ≤ g) : Ext w w2 := Ext.past k1 k2 hg
theorem fill2 {a b z0 z1 : Value} (h1 : a.oneCell' = true) (h2 : b.oneCell' = true) :
    Instr.fill (fun i : Nat => ([(0, 1), (1, 1)][i]? : Option (Nat × Nat))) [z0, z1].toArray [(0, a), (1, b)] = some [a, b].toArray :=
  fill_one rfl h1 (by simp) (fill_one rfl h2 (by simp) fill_nil)

theorem r_build2 {P : Program} {n : Nat} {Q : Post} {ρ : Fr} {w : World} {all rest : List Oper} {d : Tmp} {ty : TypeId} {pos : String} {aft : Array Edge} {T : TypeId} {bb : Nat} {z0 z1 : Value} [ti : TyI P T 2 bb (.agg #[z0, z1]) true] [st : StcT P T [(0, 1), (1, 1)]]
    {x y : Operand} {a b : Value} (hx : ev ρ x = a) (hy : ev ρ y = b) (h1 : a.oneCell' = true) (h2 : b.oneCell' = true)
    (h : WpR P n all Q rest (upd ρ d (.agg #[a, b])) w) : WpR P n all Q (⟨some d, .build T #[(0, x), (1, y)], ty, pos, aft, none⟩ :: rest) ρ w :=
  r_build (parts := [(0, x), (1, y)]) (zs := [z0, z1]) (cs := [a, b]) (vs := [(0, a), (1, b)]) rfl (by rw [← hx, ← hy]; rfl) (fill2 h1 h2) h
theorem r_store2 {P : Program} {n : Nat} {Q : Post} {ρ : Fr} {w : World} {all rest : List Oper} {ty : TypeId} {pos : String} {aft : Array Edge} {t : TypeId} {bb : Nat} {z : Value} {agg : Bool} [ti : TyI P t 2 bb z agg] {x y : Operand} {g : Nat} {T : TypeId} {a b c d : Value}
    (hx : ev ρ x = .pointer (some ⟨g, 0, none⟩)) (hy : ev ρ y = .agg #[a, b]) (hb : Blk w g T [c, d]) (h1 : a.oneCell' = true) (h2 : b.oneCell' = true)
    (h : ∀ w', Wrt g w w' → Blk w' g T [a, b] → WpR P n all Q rest ρ w') : WpR P n all Q (⟨none, .store t x y, ty, pos, aft, none⟩ :: rest) ρ w :=
  r_store_all (us := [a, b]) hx hy rfl rfl hb rfl (ones2 h1 h2) h

theorem signed_c {S : Nat → Prop} {w : World} {vm : Value} {n : Nat} {p : Prop} (z : Int) (hm : NatV S 127 .u32 w vm n) (ha : z.natAbs = n) (hp : z < 0 ↔ p ∧ 0 < n) :
    Gives Tryz.prog 86 [.bool (tst p), vm] w fun v' w' => Ext w w' ∧ IntV S 127 .u32 w' v' z := by
  subst ha
  refine gives_of Tryz.func86 rfl rfl rfl ?_
  repeat (first | refine wp_seq_region ?_ | refine wp_region ?_)
  refine r_alloc (cs := [.bool false, .slice none 0 0]) rfl ?_
  intro w1 g k1 hg hgs
  have hm0 := hm
  replace hm := hm.to k1
  have hdl : 0 < (dg z.natAbs).length ↔ 0 < z.natAbs := by
    have := @dl_eq_zero z.natAbs
    unfold dl at this
    omega
  repeat (first | refine wp_seq_region ?_ | refine wp_region ?_ | refine r_move (by conv => (lhs; whnf)) ?_ | refine r_nil ?_)
  refine r_guard_split rfl rfl ?_ ?_ <;> intro hc
  · repeat (first | refine r_move (by conv => (lhs; whnf)) ?_ | refine r_len (by conv => (lhs; whnf)) (by assumption) ?_ | refine r_guard_run rfl rfl ?_ | refine r_pick_true rfl (by conv => (lhs; whnf)) ?_ | refine r_gtr rfl rfl ?_)
    refine r_build2 (by conv => (lhs; whnf)) (by conv => (lhs; whnf)) rfl hm.one ?_
    refine r_store2 rfl (by conv => (lhs; whnf)) hg rfl hm.one ?_
    intro w2 k2 hg2
    repeat (first | refine r_nil ?_ | refine q_then ?_ | refine wp_ret ?_)
    refine end1 rfl (resV_agg (by conv => (lhs; whnf)) hg2 rfl) ⟨?_, vm, ?_, ?_⟩
    · exact k1.past k2 hgs
    · rw [tst_congr (show (0 : Int) < ((dg z.natAbs).length : Nat) ↔ z < 0 by rw [hp, ← hdl]; exact ⟨fun h => ⟨hc, by omega⟩, fun h => by omega⟩)]
    · exact hm0.past k1 k2 hgs
  · repeat (first | refine r_move (by conv => (lhs; whnf)) ?_ | refine r_guard_skip rfl rfl rfl ?_ | refine r_pick_false rfl (by conv => (lhs; whnf)) ?_)
    refine r_build2 (by conv => (lhs; whnf)) (by conv => (lhs; whnf)) rfl hm.one ?_
    refine r_store2 rfl (by conv => (lhs; whnf)) hg rfl hm.one ?_
    intro w2 k2 hg2
    repeat (first | refine r_nil ?_ | refine q_then ?_ | refine wp_ret ?_)
    refine end1 rfl (resV_agg (by conv => (lhs; whnf)) hg2 rfl) ⟨?_, vm, ?_, ?_⟩
    · exact k1.past k2 hgs
    · rw [tst_false (show ¬ z < 0 from fun h => hc (hp.1 h).1)]
    · exact hm0.past k1 k2 hgs
end Go.Proofs.YtpmnjjmngogkkaaGreatDoor
