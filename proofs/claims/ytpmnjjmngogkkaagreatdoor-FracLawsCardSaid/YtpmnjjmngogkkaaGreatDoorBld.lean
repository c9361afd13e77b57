/- The library's string builder: what it does when it is written. -/
import Derived.Test.YtpmnjjmngogkkaaGreatDoorTypes
import Derived.Test.YtpmnjjmngogkkaaGreatDoorOps2
import Derived.Lib.Builder
import Derived.Lib.AppendStr
import Derived.Laws.Externs
import Derived.KernelRfl
set_option linter.unusedVariables false
set_option linter.unusedSimpArgs false
namespace Go.Proofs.YtpmnjjmngogkkaaGreatDoor
open Go Go.RowKit
section rules
variable {P : Program} {n : Nat} {Q : Post} {ρ : Fr} {w : World} {all rest : List Oper} {d : Tmp} {ty : TypeId} {pos : String} {aft : Array Edge}
theorem r_nilCheck {x : Operand} {a : Addr} (hx : ev ρ x = .pointer (some a)) (h : WpR P n all Q rest (upd ρ d (.pointer (some a))) w) :
    WpR P n all Q (⟨some d, .nilCheck x, ty, pos, aft, none⟩ :: rest) ρ w :=
  r_val rfl rfl (by simp [execOp, hx]) h
theorem r_convw {src dst : TypeId} {x : Operand} {u v : Value} (hx : ev ρ x = u) (hr : (convert src dst u).run P w = .ok v w) (h : WpR P n all Q rest (upd ρ d v) w) :
    WpR P n all Q (⟨some d, .convert src dst x, ty, pos, aft, none⟩ :: rest) ρ w :=
  r_val rfl rfl (by subst hx; simp [execOp, hr]) h
theorem r_eql_nilptr {t e t2 : TypeId} (hp : P.underlying t = some (.pointer e)) {x : Operand} {a : Option Addr} (hx : ev ρ x = .pointer a) (h : WpR P n all Q rest (upd ρ d (.bool a.isNone)) w) :
    WpR P n all Q (⟨some d, .binOp .eql t x (.const (.pointer none)) t2, ty, pos, aft, none⟩ :: rest) ρ w := by
  refine r_val rfl rfl ?_ h
  have hn : ev ρ (.const (.pointer none)) = .pointer none := rfl
  have h2 : (Op.equal t (.pointer a) (.pointer none)).run P w = .ok a.isNone w := by
    unfold Op.equal Op.maxDepth Op.equalIn
    cases a <;> simp [run_underlying hp]
  simp [execOp, hx, hn, eqGuard, binOp, h2]
theorem r_neq_same {t e t2 : TypeId} {j : TypeInfo} (hp : P.underlying t = some (.pointer e)) (hj : P.info? e = some j) {x y : Operand} {a : Addr} (hx : ev ρ x = .pointer (some a)) (hy : ev ρ y = .pointer (some a)) (h : WpR P n all Q rest (upd ρ d (.bool false)) w) :
    WpR P n all Q (⟨some d, .binOp .neq t x y t2, ty, pos, aft, none⟩ :: rest) ρ w := by
  refine r_val rfl rfl ?_ h
  have h2 := Lib.run_neq_ptr_same (P := P) w a hp hj
  simp [execOp, hx, hy, eqGuard, h2]
theorem r_callx {f : FuncId} {l : List Operand} {ts : Array TypeId} {args : List Value} {v : Value} (hr : (callFunc f args.toArray).run P w = .ok (.value v) w) (ha : l.map (ev ρ) = args)
    (h : WpR P n all Q rest (upd ρ d v) w) : WpR P n all Q (⟨some d, .call ⟨.value (.func f), l.toArray, ts⟩, ty, pos, aft, none⟩ :: rest) ρ w := by
  refine r_val rfl rfl ?_ h
  subst ha
  simp [execOp, resolve, Deferred.ofValue, ev, invoke, hr]
theorem r_storeAt {t : TypeId} {b : Nat} {z : Value} {agg : Bool} [ti : TyI P t 1 b z agg] {x y : Operand} {a : Addr} {u c : Value}
    (hx : ev ρ x = .pointer (some a)) (hy : ev ρ y = u) (hc : w.cell? a = some c) (hf : w.frozen? a = false) (h1 : u.oneCell' = true)
    (h : WpR P n all Q rest ρ (w.setCell a u)) : WpR P n all Q (⟨none, .store t x y, ty, pos, aft, none⟩ :: rest) ρ w := by
  refine r_skipw rfl rfl ?_ h
  have hcc : u.cells = #[u] := cells_one h1
  have h2 := run_store P w a u .plain h1
  rw [hc, hf] at h2
  simp only [Bool.false_eq_true, if_false] at h2
  have h3 : a.add 0 = a := by unfold Addr.add; simp
  simp [execOp, hx, hy, Instr.storeAt, Instr.sureAddr, storeVar, ti.runSize w, hcc, storeCells, h3, h2]
theorem r_append_str {t u e : TypeId} [st : SlT P t e] [su : StrT P u] [ti : TyI P e 1 1 (.int .u8 0) false] {x y : Operand} {v : Value} {base m : Nat} {xs : List Value} {s : List UInt8}
    (hx : ev ρ x = v) (hown : Own base e 1 w v m xs) (hy : ev ρ y = strV s) (hbytes : m + s.length ≤ 140737488355328) (hbase : base ≤ w.heap.size)
    (h : ∀ v' w', Own base e 1 w' v' (m + s.length) (xs ++ Lib.byteCells s) → Keeps (fun i => some i ≠ v.ownBlock) w w' → WpR P n all Q rest (upd ρ d v') w') :
    WpR P n all Q (⟨some d, .call ⟨.builtin .append, #[x, y], #[t, u]⟩, ty, pos, aft, none⟩ :: rest) ρ w := by
  obtain ⟨i, hi, e1, e2, e3⟩ := ti.ex
  obtain ⟨v', w', hr, h2, h3, _⟩ := Lib.run_append_own_string (P := P) w base t u ty e i st.und su.und hi e3 e1 e2 v m xs hown ⟨s.toArray⟩ (by show m + s.toArray.size ≤ _; simp [maxLen]; omega) (by show m + s.toArray.size ≤ _; simpa using hbytes) hbase
  have es : (⟨s.toArray⟩ : ByteArray).size = s.length := by show s.toArray.size = _; simp
  rw [es, Lib.strCells_eq] at h2
  refine r_valw rfl rfl ?_ (h v' w' h2 (.of_grown h3))
  simp [execOp, resolve, invoke, builtin, hx, hy, hr]
end rules

abbrev BuiltF (B b : Nat) (bs : List UInt8) (w : World) : Prop := Lib.IsBuilder 172 5 B b (Lib.byteCells bs) w
theorem liesBuilder : liesAt Tryz.prog Tryz.prog.depth 172 (2 / Tryz.prog.cellsOf 172) 0 172 1 = true := by kernel_rfl
theorem copyCheck_c {B b : Nat} {bs : List Value} {w : World} (h : Lib.IsBuilder 172 5 B b bs w) :
    Gives Tryz.prog 172 [.pointer (some ⟨b, 0, none⟩)] w fun v' w' => Lib.BuilderAt 172 5 B b (.pointer (some ⟨b, 0, none⟩)) bs w' ∧ Below B w w' := by
  obtain ⟨i, hi, hsz, _⟩ := (inferInstance : TyI Tryz.prog 172 2 _ _ _).ex
  rcases h with h | h
  · refine gives_of Tryz.func172 rfl rfl rfl ?_
    repeat (first | refine r_nilCheck rfl ?_ | refine wp_seq_region ?_ | refine wp_region ?_ | refine r_move (by conv => (lhs; whnf)) ?_ | refine r_field rfl ?_)
    refine r_load (u := .pointer none) rfl (load_one inferInstance h.cell0) ?_
    refine r_eql_nilptr Tryz.underlying170 rfl ?_
    repeat (first | refine wp_region ?_ | refine r_move (by conv => (lhs; whnf)) ?_ | refine r_nil ?_ | refine q_then ?_ | refine wp_cond_true rfl ?_)
    refine r_convw rfl (Lib.run_to_unsafe w ⟨b, 0, none⟩ Tryz.underlying170 Tryz.underlying222 hi (by rw [hsz]; decide) h.shape (Nat.zero_lt_succ 1)) ?_
    refine r_callx (args := [.pointer (some ⟨b, 0, none⟩)]) (v := .pointer (some ⟨b, 0, none⟩)) ?_ rfl ?_
    · rw [run_callFunc_extern Tryz.func202 (by kernel_rfl) (by kernel_rfl) (by kernel_rfl) (e := Extern.AbiNoEscape.same) (by kernel_rfl)]
      rw [Lib.run_noEscape]
      rfl
    refine r_convw rfl (Lib.run_from_unsafe w ⟨b, 0, none⟩ Tryz.underlying222 Tryz.underlying170 hi h.shape liesBuilder) ?_
    repeat (first | refine r_nilCheck rfl ?_ | refine r_field rfl ?_)
    refine r_storeAt (a := ⟨b, 0, none⟩) rfl rfl h.cell0 h.frozen0 rfl ?_
    repeat (first | refine r_nil ?_)
    exact ⟨[], rfl, h.used _, (Below.refl B w).setCell (p := ⟨b, 0, none⟩) h.1 _⟩
  · refine gives_of Tryz.func172 rfl rfl rfl ?_
    repeat (first | refine r_nilCheck rfl ?_ | refine wp_seq_region ?_ | refine wp_region ?_ | refine r_move (by conv => (lhs; whnf)) ?_ | refine r_field rfl ?_)
    refine r_load (u := .pointer (some ⟨b, 0, none⟩)) rfl (load_one inferInstance h.cell0) ?_
    refine r_eql_nilptr Tryz.underlying170 rfl ?_
    repeat (first | refine r_nilCheck rfl ?_ | refine wp_seq_region ?_ | refine wp_region ?_ | refine r_move (by conv => (lhs; whnf)) ?_ | refine r_nil ?_ | refine q_then ?_ | refine r_field rfl ?_ | refine wp_cond_false rfl ?_)
    refine r_load (u := .pointer (some ⟨b, 0, none⟩)) rfl (load_one inferInstance h.cell0) ?_
    repeat (first | refine r_move (by conv => (lhs; whnf)) ?_)
    refine r_neq_same Tryz.underlying170 hi rfl rfl ?_
    repeat (first | refine r_nil ?_ | refine q_then ?_ | refine wp_skip ?_ | refine wp_cond_false rfl ?_)
    exact ⟨[], rfl, h, Below.refl B _⟩

theorem writeString_c {B b : Nat} {bs s : List UInt8} {w : World} (h : BuiltF B b bs w) (hlen : bs.length + s.length ≤ 140737488355328) (hBw : B ≤ w.heap.size) :
    Gives Tryz.prog 137 [.pointer (some ⟨b, 0, none⟩), strV s] w fun v' w' => BuiltF B b (bs ++ s) w' ∧ Below B w w' := by
  refine gives_of Tryz.func137 rfl rfl rfl ?_
  repeat (first | refine wp_seq_region ?_ | refine wp_region ?_ | refine r_move (by conv => (lhs; whnf)) ?_ | refine r_assign (by conv => (lhs; whnf)) ?_ | refine r_nil ?_)
  refine r_call (copyCheck_c h) rfl ?_
  rintro v1 w1 ⟨h1, k1⟩
  obtain ⟨hB, v, hbk, hown, hne⟩ := h1
  have hblk : Blk w1 b 172 [.pointer (some ⟨b, 0, none⟩), v] := hbk
  have hk1 := k1.size
  repeat (first | refine r_nilCheck rfl ?_ | refine r_load_blk rfl hblk rfl ?_ | refine wp_seq_region ?_ | refine wp_region ?_ | refine r_move (by conv => (lhs; whnf)) ?_ | refine r_nil ?_ | refine r_field rfl ?_)
  rw [Lib.byteCells_length] at hown
  refine r_append_str (by conv => (lhs; whnf)) hown rfl hlen (by omega) ?_
  intro v2 w2 hown2 k2
  repeat (first | refine r_nilCheck rfl ?_ | refine r_field rfl ?_)
  have hblk2 : Blk w2 b 172 [.pointer (some ⟨b, 0, none⟩), v] := hblk.keep k2 (fun e => hne e.symm)
  have h1 : v2.oneCell' = true := by
    rcases hown2.2 with ⟨hv, _⟩ | ⟨g, cap, cur, hv, _⟩ <;> rw [hv] <;> rfl
  refine r_store (i := 1) rfl rfl hblk2 (show 1 < 2 by decide) h1 ?_
  intro w3 k3 hblk3
  repeat (first | refine wp_seq_region ?_ | refine wp_region ?_ | refine r_move (by conv => (lhs; whnf)) ?_ | refine r_assign (by conv => (lhs; whnf)) ?_ | refine r_nil ?_ | refine q_then ?_ | refine wp_ret ?_ | refine r_len_str rfl ?_)
  refine end_tmp2 rfl (by conv => (lhs; whnf)) (by conv => (lhs; whnf)) ⟨.inr ⟨hB, v2, hblk3, ?_, ?_⟩, ?_⟩
  · have hl : (Lib.byteCells bs ++ Lib.byteCells s).length = bs.length + s.length := by rw [List.length_append, Lib.byteCells_length, Lib.byteCells_length]
    rw [Lib.byteCells_append, hl]
    exact own_keep hown2 k3 fun g hg e => Lib.ownBlock_ne hown2 hblk2 (by decide) (e ▸ hg)
  · exact Lib.ownBlock_ne hown2 hblk2 (by decide)
  · have k4 : Keeps (fun k => k < B) w1 w3 := (Keeps.own hown k2).trans (k3.mono fun i hi e => by omega)
    refine k1.trans ⟨k4.os, k4.tape, k4.output, k4.size, fun i hi => k4.block i (by omega) hi⟩
end Go.Proofs.YtpmnjjmngogkkaaGreatDoor
