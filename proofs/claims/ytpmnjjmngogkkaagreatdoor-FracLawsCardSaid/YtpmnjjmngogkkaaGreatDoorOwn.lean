/- Rules for memory that the call makes: literals, make, append; min and max. It holds for every program. -/
import Derived.Test.YtpmnjjmngogkkaaGreatDoorOps
set_option linter.unusedVariables false
set_option linter.unusedSimpArgs false
namespace Go.Proofs.YtpmnjjmngogkkaaGreatDoor
open Go Go.RowKit

/-- v is a slice that the call itself made, from block base on: it may be appended to and written. -/
abbrev Own (base : Nat) (T : TypeId) (s : Nat) (w : World) (v : Value) (m : Nat) (xs : List Value) : Prop := w.ownsRow base T s v m xs

theorem own_keep {S : Nat → Prop} {base : Nat} {T : TypeId} {s : Nat} {w w' : World} {v : Value} {m : Nat} {xs : List Value} (h : Own base T s w v m xs) (k : Keeps S w w') (hS : ∀ g, v.ownBlock = some g → S g) : Own base T s w' v m xs := by
  refine ⟨h.1, ?_⟩
  rcases h.2 with hn | ⟨g, cap, cur, rfl, hb, hg, rest⟩
  · exact .inl hn
  · exact .inr ⟨g, cap, cur, rfl, hb, (k.block g (Array.getElem?_eq_some_iff.1 hg).1 (hS g rfl)).trans hg, rest⟩
theorem own_to {base : Nat} {T : TypeId} {s : Nat} {w w' : World} {v : Value} {m : Nat} {xs : List Value} (h : Own base T s w v m xs) (k : Ext w w') : Own base T s w' v m xs := own_keep h k fun _ _ => trivial
theorem own_nil {base : Nat} {T : TypeId} {s : Nat} {w : World} : Own base T s w (.slice none 0 0) 0 [] := World.ownsRow_nil w base T s
theorem own_low {base : Nat} {T : TypeId} {s : Nat} {w : World} {v : Value} {m : Nat} {xs : List Value} (h : Own base T s w v m xs) (b : Nat) (hb : b ≤ base) : Own b T s w v m xs := by
  refine ⟨h.1, ?_⟩
  rcases h.2 with hn | ⟨g, cap, cur, rfl, hg, rest⟩
  · exact .inl hn
  · exact .inr ⟨g, cap, cur, rfl, Nat.le_trans hb hg, rest⟩
/-- A made block is owned. -/
theorem own_made {base : Nat} {T : TypeId} {s cap : Nat} {w : World} {b : Nat} {cs : List Value} (h : Blk w b T cs) (hb : base ≤ b) (hm : cap ≤ maxLen) (hs : cs.length = cap * s) : Own base T s w (.slice (some ⟨b, 0, none⟩) 0 cap) 0 [] :=
  ⟨by simp, .inr ⟨b, cap, cs.toArray, rfl, hb, h, Nat.zero_le _, hm, by simpa using hs, by simp⟩⟩
theorem own_blk {base : Nat} {T : TypeId} {s m : Nat} {w : World} {b : Nat} {cs : List Value} (h : Blk w b T cs) (hb : base ≤ b) (hm : m ≤ maxLen) (hs : cs.length = m * s) : Own base T s w (.slice (some ⟨b, 0, none⟩) m m) m cs :=
  ⟨hs, .inr ⟨b, m, cs.toArray, rfl, hb, h, Nat.le_refl _, hm, by simpa using hs, by simp [← hs]⟩⟩
theorem Keeps.own {base : Nat} {T : TypeId} {s : Nat} {w w' : World} {v : Value} {m : Nat} {xs : List Value} (h : Own base T s w v m xs) (k : Keeps (fun k => some k ≠ v.ownBlock) w w') : Keeps (fun k => k < base) w w' :=
  k.mono fun i hi e => by have := (h.lt i e.symm).1; omega

section rules
variable {P : Program} {n : Nat} {Q : Post} {ρ : Fr} {w : World} {all rest : List Oper} {d : Tmp} {ty : TypeId} {pos : String} {aft : Array Edge}

theorem r_max {x y : Operand} {ts : Array TypeId} {k : IntKind} {a b : Int} (hx : ev ρ x = .int k a) (hy : ev ρ y = .int k b) (h : WpR P n all Q rest (upd ρ d (.int k (max a b))) w) :
    WpR P n all Q (⟨some d, .call ⟨.builtin .max, #[x, y], ts⟩, ty, pos, aft, none⟩ :: rest) ρ w := by
  refine r_val rfl rfl ?_ h
  have e : (if b > a then b else a) = max a b := by split <;> omega
  simp [execOp, resolve, invoke, builtin, hx, hy, run_max_int2, e]
theorem r_min {x y : Operand} {ts : Array TypeId} {k : IntKind} {a b : Int} (hx : ev ρ x = .int k a) (hy : ev ρ y = .int k b) (h : WpR P n all Q rest (upd ρ d (.int k (min a b))) w) :
    WpR P n all Q (⟨some d, .call ⟨.builtin .min, #[x, y], ts⟩, ty, pos, aft, none⟩ :: rest) ρ w := by
  refine r_val rfl rfl ?_ h
  simp [execOp, resolve, invoke, builtin, hx, hy, run_min_int2]
  omega

/-- A slice of one element of one cell. -/
theorem r_lit1 {t T : TypeId} [st : SlT P t T] {b : Nat} {z : Value} {agg : Bool} [ti : TyI P T 1 b z agg] {x : Operand} {v : Value} (hx : ev ρ x = v) (h1 : v.oneCell' = true)
    (h : ∀ w' g, Ext w w' → Blk w' g T [v] → w.heap.size ≤ g → WpR P n all Q rest (upd ρ d (.slice (some ⟨g, 0, none⟩) 1 1)) w') :
    WpR P n all Q (⟨some d, .buildSlice t 1 #[(0, x)], ty, pos, aft, none⟩ :: rest) ρ w := by
  have hc : v.cells = #[v] := by cases v <;> first | rfl | cases h1
  refine r_valw (w' := w.alloc (.cells [v].toArray T)) rfl rfl ?_ (h _ w.heap.size (ext_alloc _ _) (Blk.new _ _ _) (Nat.le_refl _))
  have hz := ti.zsize
  simp [execOp, hx, Instr.buildSlice, run_underlying st.und, ti.runSize w, ti.runZero w, Instr.fill, hc, newRow]
  have e : ∀ f : Nat → Value, (Array.map f (Array.range 1)).setIfInBounds 0 v = #[v] := fun f => by
    refine Array.ext (by simp) fun i h2 h3 => ?_
    obtain rfl : i = 0 := by simp at h3; omega
    simp
  rw [e]

theorem r_make {t T : TypeId} [st : SlT P t T] {s b : Nat} {z : Value} {agg : Bool} [ti : TyI P T s b z agg] {x y : Operand} {I J : Int} {l c : Nat} (hx : ev ρ x = .int .i64 I) (hy : ev ρ y = .int .i64 J) (hI : I = (l : Int)) (hJ : J = (c : Int))
    (hlc : l ≤ c) (hb : b * c ≤ 281474976710656) (hc : c ≤ maxLen)
    (h : ∀ w' g, Ext w w' → Blk w' g T (madeCells z.cells (c * s)).toList → w.heap.size ≤ g → WpR P n all Q rest (upd ρ d (.slice (some ⟨g, 0, none⟩) l c)) w') :
    WpR P n all Q (⟨some d, .makeSlice t x y, ty, pos, aft, none⟩ :: rest) ρ w := by
  obtain ⟨i, hi, h1, h2, h3⟩ := ti.ex
  subst hI hJ
  have hm := hc
  unfold maxLen at hm
  have hb4 : (b : Int) * (c : Int) ≤ 281474976710656 := by
    have h4 : ((b * c : Nat) : Int) ≤ 281474976710656 := by omega
    rwa [Int.natCast_mul] at h4
  have hr := run_make (P := P) w t T i z st.und hi h3 .i64 .i64 (l : Int) (c : Int) (by omega) (by omega) (by rw [h2]; exact hb4) (by omega)
  rw [h1] at hr
  have hn := h (w.alloc (.cells (madeCells z.cells (c * s)) T)) w.heap.size (ext_alloc _ _) (by have := Blk.new w T (madeCells z.cells (c * s)).toList; simpa using this) (Nat.le_refl _)
  refine r_valw rfl rfl ?_ hn
  simp only [Int.toNat_natCast] at hr
  simp [execOp, hx, hy, hr]

theorem r_append {t T : TypeId} [st : SlT P t T] {s b : Nat} {z : Value} {agg : Bool} [ti : TyI P T s b z agg] {x y : Operand} {v : Value} {base m k c : Nat} {xs news : List Value} {ad : Addr}
    (hx : ev ρ x = v) (hown : Own base T s w v m xs) (hy : ev ρ y = .slice (some ad) k c) (hs : 0 < s) (hnl : news.length = k * s) (hnews : ∀ j u, news[j]? = some u → w.cell? (ad.add j) = some u) (h1 : ∀ u ∈ news, u.oneCell' = true)
    (hlen : m + k ≤ maxLen) (hbytes : (m + k) * b ≤ 140737488355328) (hbase : base ≤ w.heap.size)
    (h : ∀ v' w', Own base T s w' v' (m + k) (xs ++ news) → Keeps (fun i => some i ≠ v.ownBlock) w w' → WpR P n all Q rest (upd ρ d v') w') :
    WpR P n all Q (⟨some d, .call ⟨.builtin .append, #[x, y], #[t, t]⟩, ty, pos, aft, none⟩ :: rest) ρ w := by
  obtain ⟨i, hi, e1, e2, e3⟩ := ti.ex
  obtain ⟨v', w', hr, h2, h3, h4⟩ := run_append_own (P := P) w base t ty T i z s b st.und hi e3 e1 e2 ti.zsize hs v m xs hown ad k c news hnl hnews h1 hlen hbytes hbase
  refine r_valw rfl rfl ?_ (h v' w' h2 (.of_grown h3))
  simp [execOp, resolve, invoke, builtin, hx, hy, hr]
theorem r_append_nil {t T : TypeId} [st : SlT P t T] {s b : Nat} {z : Value} {agg : Bool} [ti : TyI P T s b z agg] {x y : Operand} {v : Value} {base m : Nat} {xs : List Value}
    (hx : ev ρ x = v) (hown : Own base T s w v m xs) (hy : ev ρ y = .slice none 0 0) (h : WpR P n all Q rest (upd ρ d v) w) :
    WpR P n all Q (⟨some d, .call ⟨.builtin .append, #[x, y], #[t, t]⟩, ty, pos, aft, none⟩ :: rest) ρ w := by
  obtain ⟨i, hi, e1, e2, e3⟩ := ti.ex
  have hr := run_append_owned_none (P := P) (w := w) base t ty T i s st.und hi v m xs hown
  refine r_val rfl rfl ?_ h
  simp [execOp, resolve, invoke, builtin, hx, hy, hr]
/-- append(x, e) where e lies in a new block of one element. -/
theorem r_append1 {t T : TypeId} [st : SlT P t T] {s b : Nat} {z : Value} {agg : Bool} [ti : TyI P T s b z agg] {x y : Operand} {v : Value} {base m g : Nat} {xs cs : List Value}
    (hx : ev ρ x = v) (hown : Own base T s w v m xs) (hy : ev ρ y = .slice (some ⟨g, 0, none⟩) 1 1) (hb : Blk w g T cs) (hs : 0 < s) (hcl : cs.length = s) (h1 : ∀ u ∈ cs, u.oneCell' = true)
    (hlen : m + 1 ≤ maxLen) (hbytes : (m + 1) * b ≤ 140737488355328) (hbase : base ≤ w.heap.size)
    (h : ∀ v' w', Own base T s w' v' (m + 1) (xs ++ cs) → Keeps (fun i => some i ≠ v.ownBlock) w w' → WpR P n all Q rest (upd ρ d v') w') :
    WpR P n all Q (⟨some d, .call ⟨.builtin .append, #[x, y], #[t, t]⟩, ty, pos, aft, none⟩ :: rest) ρ w := by
  refine r_append hx hown hy hs (by omega) (fun j u hu => ?_) h1 hlen hbytes hbase h
  have ha : (⟨g, 0, none⟩ : Addr).add j = ⟨g, j, none⟩ := by
    unfold Addr.add
    split <;> simp_all
  rw [ha]
  exact hb.cell hu
/-- append(x, a...) where a is a row. -/
theorem r_append_row {t T : TypeId} [st : SlT P t T] {s b : Nat} {z : Value} {agg : Bool} [ti : TyI P T s b z agg] {x y : Operand} {S : Nat → Prop} {v va : Value} {base m k : Nat} {xs cs : List Value}
    (hx : ev ρ x = v) (hown : Own base T s w v m xs) (hy : ev ρ y = va) (hr : Row S T s w va k cs) (hs : 0 < s) (h1 : ∀ u ∈ cs, u.oneCell' = true)
    (hlen : m + k ≤ maxLen) (hbytes : (m + k) * b ≤ 140737488355328) (hbase : base ≤ w.heap.size)
    (h : ∀ v' w', Own base T s w' v' (m + k) (xs ++ cs) → Keeps (fun i => some i ≠ v.ownBlock) w w' → WpR P n all Q rest (upd ρ d v') w') :
    WpR P n all Q (⟨some d, .call ⟨.builtin .append, #[x, y], #[t, t]⟩, ty, pos, aft, none⟩ :: rest) ρ w := by
  rcases hr.2 with ⟨h2, h3⟩ | ⟨g, off, cap, arr, fr, hv, h2, h3, h4, hg, h5, h6⟩
  · have hl := hr.1
    subst h3
    obtain rfl : cs = [] := List.eq_nil_of_length_eq_zero (by simpa using hl)
    exact r_append_nil hx hown (hy.trans h2) (by simpa using h v w (by simpa using hown) .refl)
  · refine r_append hx hown (hy.trans hv) hs hr.1 (fun j u hu => ?_) h1 hlen hbytes hbase h
    have ha : (⟨g, off, none⟩ : Addr).add j = ⟨g, off + j, none⟩ := by
      unfold Addr.add
      split <;> simp_all
    have := hr.cell hu
    rw [hv] at this
    rw [ha]
    exact this
end rules
end Go.Proofs.YtpmnjjmngogkkaaGreatDoor
