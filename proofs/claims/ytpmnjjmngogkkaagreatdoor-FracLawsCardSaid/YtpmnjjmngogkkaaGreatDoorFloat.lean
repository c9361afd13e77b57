/- Floats, of which nothing is asked but that they are floats. It holds for every program. -/
import Derived.Test.YtpmnjjmngogkkaaGreatDoorOps
set_option linter.unusedVariables false
set_option linter.unusedSimpArgs false
namespace Go.Proofs.YtpmnjjmngogkkaaGreatDoor
open Go Go.RowKit

theorem choose_any {P : Program} (q : Question) (w : World) : ∃ r w', (choose q).run P w = .ok r w' ∧ Ext w w' := by
  by_cases h : q.forced = true
  · exact ⟨0, w, by simp [choose, Sem.run, h], .refl⟩
  · exact ⟨_, w.drew, by simp [choose, Sem.run, h]; rfl, ext_drew w⟩
theorem floatArith_any {P : Program} {op : BinOp} (ho : op = .add ∨ op = .sub ∨ op = .mul ∨ op = .quo) (k : FloatKind) (x y : Nat) (w : World) :
    ∃ r w', (Op.floatArith op k x y).run P w = .ok (.float k r) w' ∧ Ext w w' := by
  obtain ⟨r, w', h1, h2⟩ := choose_any (P := P) (.nanBits k x y) w
  have h3 : (do pure (Value.float k (← choose (.nanBits k x y))) : Sem Value).run P w = .ok (.float k r) w' := by
    rw [Sem.run_bind, h1]; rfl
  rcases ho with rfl | rfl | rfl | rfl <;> unfold Op.floatArith <;> dsimp only
  · cases k.format.add x y with
    | some r => exact ⟨r, w, rfl, .refl⟩
    | none => exact ⟨r, w', h3, h2⟩
  · cases k.format.sub x y with
    | some r => exact ⟨r, w, rfl, .refl⟩
    | none => exact ⟨r, w', h3, h2⟩
  · cases k.format.mul x y with
    | some r => exact ⟨r, w, rfl, .refl⟩
    | none => exact ⟨r, w', h3, h2⟩
  · cases k.format.div x y with
    | some r => exact ⟨r, w, rfl, .refl⟩
    | none => exact ⟨r, w', h3, h2⟩
theorem max2_any {P : Program} (k : FloatKind) (x y : Nat) (w : World) : ∃ r w', (Builtin.max2 (.float k x) (.float k y)).run P w = .ok (.float k r) w' ∧ Ext w w' := by
  obtain ⟨r, w', h1, h2⟩ := choose_any (P := P) (.nanMinMax k true x y) w
  have h3 : (do pure (Value.float k (← choose (.nanMinMax k true x y))) : Sem Value).run P w = .ok (.float k r) w' := by
    rw [Sem.run_bind, h1]; rfl
  unfold Builtin.max2
  cases ho : k.format.order x y with
  | none => exact ⟨r, w', by simpa [ho] using h3, h2⟩
  | some c => cases c <;> exact ⟨_, w, by simp [ho]; rfl, .refl⟩
theorem min2_any {P : Program} (k : FloatKind) (x y : Nat) (w : World) : ∃ r w', (Builtin.min2 (.float k x) (.float k y)).run P w = .ok (.float k r) w' ∧ Ext w w' := by
  obtain ⟨r, w', h1, h2⟩ := choose_any (P := P) (.nanMinMax k false x y) w
  have h3 : (do pure (Value.float k (← choose (.nanMinMax k false x y))) : Sem Value).run P w = .ok (.float k r) w' := by
    rw [Sem.run_bind, h1]; rfl
  unfold Builtin.min2
  cases ho : k.format.order x y with
  | none => exact ⟨r, w', by simpa [ho] using h3, h2⟩
  | some c => cases c <;> exact ⟨_, w, by simp [ho]; rfl, .refl⟩
theorem wrap_u32_range (x : Int) : 0 ≤ IntKind.u32.wrap x ∧ IntKind.u32.wrap x ≤ 4294967295 := by simp [IntKind.wrap, IntKind.signed, IntKind.bits]; omega
theorem floatToInt_any {P : Program} (k : FloatKind) (x : Nat) (w : World) : ∃ (n : Nat) (w' : World), (Conv.floatToInt k x .u32).run P w = .ok (.int .u32 n) w' ∧ n ≤ 4294967295 ∧ Ext w w' := by
  obtain ⟨r, w', h1, h2⟩ := choose_any (P := P) (.floatToInt k x .u32) w
  have hw := wrap_u32_range r
  have h3 : (do pure (Value.int .u32 (IntKind.u32.wrap (← choose (.floatToInt k x .u32)))) : Sem Value).run P w = .ok (.int .u32 ((IntKind.u32.wrap r).toNat : Nat)) w' := by
    rw [Sem.run_bind, h1, Int.toNat_of_nonneg hw.1]; rfl
  unfold Conv.floatToInt
  cases ho : (k.decode x).toInt .zero with
  | none => exact ⟨(IntKind.u32.wrap r).toNat, w', h3, by omega, h2⟩
  | some n =>
    dsimp only
    by_cases hn : IntKind.u32.min ≤ n ∧ n ≤ IntKind.u32.max
    · have h4 : 0 ≤ n ∧ n ≤ 4294967295 := by simpa [IntKind.min, IntKind.max, IntKind.signed, IntKind.bits] using hn
      rw [if_pos hn, ← Int.toNat_of_nonneg h4.1]; exact ⟨n.toNat, w, rfl, by omega, .refl⟩
    · rw [if_neg hn]; exact ⟨_, w', h3, by omega, h2⟩

class FloT (P : Program) (t : TypeId) (k : outParam FloatKind) : Prop where
  und : P.underlying t = some (.float k)

theorem wp_thenB {P : Program} {n i : Nat} {c : Code} {K : Fr → World → Prop} {Q : Post} {ρ : Fr} {w : World} (h : Wp P n c (thenQ K (blockQ i (thenQ K Q))) ρ w) : Wp P n c (blockQ i (thenQ K Q)) ρ w :=
  wp_mono h fun e ρ w h => by cases e <;> exact h
theorem wp_thenBB {P : Program} {n i j : Nat} {c : Code} {K : Fr → World → Prop} {Q : Post} {ρ : Fr} {w : World} (h : Wp P n c (thenQ K (blockQ i (blockQ j (thenQ K Q)))) ρ w) : Wp P n c (blockQ i (blockQ j (thenQ K Q))) ρ w :=
  wp_mono h fun e ρ w h => by cases e <;> exact h

section rules
variable {P : Program} {n : Nat} {Q : Post} {ρ : Fr} {w : World} {all rest : List Oper} {d : Tmp} {ty : TypeId} {pos : String} {aft : Array Edge}
theorem r_float {op : BinOp} {x y : Operand} {xt yt : TypeId} {k : FloatKind} {a b : Nat} (hx : ev ρ x = .float k a) (hy : ev ρ y = .float k b) (ho : op = .add ∨ op = .sub ∨ op = .mul ∨ op = .quo)
    (h : ∀ r w', Ext w w' → WpR P n all Q rest (upd ρ d (.float k r)) w') : WpR P n all Q (⟨some d, .binOp op xt x y yt, ty, pos, aft, none⟩ :: rest) ρ w := by
  obtain ⟨r, w', h1, h2⟩ := floatArith_any (P := P) ho k a b w
  refine r_valw rfl rfl ?_ (h r w' h2)
  rcases ho with rfl | rfl | rfl | rfl <;> simp [execOp, hx, hy, eqGuard, binOp, h1]
theorem r_fmax {x y : Operand} {ts : Array TypeId} {k : FloatKind} {a b : Nat} (hx : ev ρ x = .float k a) (hy : ev ρ y = .float k b)
    (h : ∀ r w', Ext w w' → WpR P n all Q rest (upd ρ d (.float k r)) w') : WpR P n all Q (⟨some d, .call ⟨.builtin .max, #[x, y], ts⟩, ty, pos, aft, none⟩ :: rest) ρ w := by
  obtain ⟨r, w', h1, h2⟩ := max2_any (P := P) k a b w
  refine r_valw rfl rfl ?_ (h r w' h2)
  simp [execOp, resolve, invoke, builtin, hx, hy, Builtin.max_, h1]
theorem r_fmin {x y : Operand} {ts : Array TypeId} {k : FloatKind} {a b : Nat} (hx : ev ρ x = .float k a) (hy : ev ρ y = .float k b)
    (h : ∀ r w', Ext w w' → WpR P n all Q rest (upd ρ d (.float k r)) w') : WpR P n all Q (⟨some d, .call ⟨.builtin .min, #[x, y], ts⟩, ty, pos, aft, none⟩ :: rest) ρ w := by
  obtain ⟨r, w', h1, h2⟩ := min2_any (P := P) k a b w
  refine r_valw rfl rfl ?_ (h r w' h2)
  simp [execOp, resolve, invoke, builtin, hx, hy, Builtin.min_, h1]
theorem r_tofloat {src dst : TypeId} {x : Operand} {k0 k : IntKind} {kf : FloatKind} [ss : IntT P src k0] [sd : FloT P dst kf] {a : Int} (hx : ev ρ x = .int k a)
    (h : ∀ r, WpR P n all Q rest (upd ρ d (.float kf r)) w) : WpR P n all Q (⟨some d, .convert src dst x, ty, pos, aft, none⟩ :: rest) ρ w := by
  refine r_val (v := .float kf (kf.nearest a)) rfl rfl ?_ (h _)
  simp [execOp, hx, convert, run_underlying ss.und, run_underlying sd.und, Conv.intToFloat]
theorem r_tou32 {src dst : TypeId} {x : Operand} {kf k : FloatKind} [ss : FloT P src kf] [sd : IntT P dst .u32] {a : Nat} (hx : ev ρ x = .float k a)
    (h : ∀ (m : Nat) w', m ≤ 4294967295 → Ext w w' → WpR P n all Q rest (upd ρ d (.int .u32 m)) w') : WpR P n all Q (⟨some d, .convert src dst x, ty, pos, aft, none⟩ :: rest) ρ w := by
  obtain ⟨m, w', h1, h2, h3⟩ := floatToInt_any (P := P) k a w
  refine r_valw rfl rfl ?_ (h m w' h2 h3)
  simp [execOp, hx, convert, run_underlying ss.und, run_underlying sd.und, h1]
end rules
end Go.Proofs.YtpmnjjmngogkkaaGreatDoor
