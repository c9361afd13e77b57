/- Numbers that are too large: how a calculation is left. -/
import Derived.Test.YtpmnjjmngogkkaaGreatDoorRat2
import Derived.Test.YtpmnjjmngogkkaaGreatDoorDefer
import Derived.Test.YtpmnjjmngogkkaaGreatDoorMag8
set_option linter.unusedVariables false
set_option linter.unusedSimpArgs false
namespace Go.Proofs.YtpmnjjmngogkkaaGreatDoor
open Go Go.RowKit

def tooBig : List PanicEntry := [{ v := .iface 180 (.agg #[]), recovered := false }]
theorem ikept_c {S : Nat → Prop} {w : World} {v : Value} {z : Int} (hS : Up S w) (h : IntV S 127 .u32 w v z) :
    GivesE Tryz.prog 91 [v] w (fun v' w' => v' = v ∧ Ext w w' ∧ z.natAbs < Big) fun ch w' => ch = tooBig ∧ Ext w w' ∧ ¬ z.natAbs < Big := by
  obtain ⟨m, rfl, hm⟩ := h
  refine givesE_of Tryz.func91 rfl rfl rfl ?_
  repeat (first | refine wp_seq_region ?_ | refine wp_region ?_)
  refine r_box (cs := [.bool (tst (z < 0)), m]) (by conv => (lhs; whnf)) rfl ?_
  intro w1 g k1 hg hgs
  skip
  refine r_alloc (cs := [.bool false, .slice none 0 0]) rfl ?_
  intro w2 g2 k2 hg2 hgs2
  have hgl := hg.lt
  replace hg := hg.to k2
  have k := k1.trans k2
  repeat (first | refine r_load_blk rfl hg rfl ?_ | refine wp_seq_region ?_ | refine wp_seq_seq ?_ | refine wp_region ?_ | refine r_nil ?_ | refine r_field rfl ?_)
  refine r_call (isSmall_c (hS.to k) (hm.to k)) rfl ?_
  rintro v3 w3 ⟨rfl, k3⟩
  repeat (first | refine r_nil ?_ | refine q_then ?_ | refine r_notB rfl ?_)
  try refine wp_seq_cond ?_
  refine wp_cond_dec rfl ?_ ?_ <;> intro hc
  · repeat (first | refine wp_region ?_)
    refine r_build0 (cs := []) rfl ?_
    refine r_iface rfl ?_
    refine r_panic rfl ?_
    refine q_then_panic (endE_panic ⟨rfl, k.trans k3, hc⟩)
  · repeat (first | refine r_load_all rfl (hg.to k3) rfl ?_ | refine wp_seq_region ?_ | refine wp_region ?_ | refine wp_skip ?_)
    refine r_store2 rfl (by conv => (lhs; whnf)) (hg2.to k3) rfl hm.one ?_
    intro w4 k4 hg4
    repeat (first | refine r_nil ?_ | refine q_then ?_ | refine wp_ret ?_)
    exact endE_of (end1 rfl (resV_agg (by conv => (lhs; whnf)) hg4 rfl) ⟨rfl, Keeps.past (k.trans k3) k4 (by have := k1.size; omega), Classical.not_not.1 hc⟩)
/-- Both parts are small. -/
def Fits (q : Rat) : Prop := q.num.natAbs < Big ∧ q.den < Big
theorem rkept_c {S : Nat → Prop} {w : World} {v : Value} {q : Rat} (hS : Up S w) (h : RatV S w v q) :
    GivesE Tryz.prog 106 [v] w (fun v' w' => v' = v ∧ Ext w w' ∧ Fits q) fun ch w' => ch = tooBig ∧ Ext w w' ∧ ¬ Fits q := by
  have h0 := h
  obtain ⟨m, b, rfl, hm, hb⟩ := h
  refine givesE_of Tryz.func106 rfl rfl rfl ?_
  repeat (first | refine wp_seq_region ?_ | refine wp_region ?_)
  refine r_box (cs := [.bool (tst (q.num < 0)), m, b]) (by conv => (lhs; whnf)) rfl ?_
  intro w1 g k1 hg hgs
  skip
  refine r_alloc (cs := [.bool false, .slice none 0 0, .slice none 0 0]) rfl ?_
  intro w2 g2 k2 hg2 hgs2
  have hgl := hg.lt
  replace hg := hg.to k2
  have k := k1.trans k2
  have hk1 := k1.size
  replace hS := hS.to k
  replace h0 := h0.to k
  repeat (first | refine r_load_part rfl hg rfl rfl ?_ | refine wp_seq_region ?_ | refine wp_region ?_ | refine r_nil ?_ | refine r_field rfl ?_)
  refine r_callE (ikept_c (z := q.num) hS ⟨m, rfl, hm.to k⟩) rfl ?_ ?_
  · rintro v3 w3 ⟨_, k3, hf⟩
    repeat (first | refine r_load_all rfl (hg.to k3) rfl ?_ | refine wp_seq_region ?_ | refine wp_region ?_ | refine r_nil ?_)
    refine r_call (den_c (hS.to k3) (h0.to k3)) rfl ?_
    rintro v4 w4 ⟨k4, h4⟩
    refine r_call (signed0_c h4) rfl ?_
    rintro v5 w5 ⟨k5, h5⟩
    refine r_callE (ikept_c (z := (q.den : Int)) (hS.to ((k3.trans k4).trans k5)) h5) rfl ?_ ?_
    · rintro v6 w6 ⟨_, k6, hf2⟩
      have k36 := ((k3.trans k4).trans k5).trans k6
      repeat (first | refine r_load_all rfl (hg.to k36) rfl ?_ | refine wp_seq_region ?_ | refine wp_region ?_ | refine r_nil ?_)
      refine r_store3 rfl (by conv => (lhs; whnf)) (hg2.to k36) rfl rfl hm.one hb.one ?_
      intro w7 k7 hg7
      repeat (first | refine r_nil ?_ | refine q_then ?_ | refine wp_ret ?_)
      exact endE_of (end1 rfl (resV_agg (by conv => (lhs; whnf)) hg7 rfl) ⟨rfl, Keeps.past (k.trans k36) k7 (by omega), hf, by rwa [Int.natAbs_natCast] at hf2⟩)
    · rintro ch w6 ⟨rfl, k6, hf2⟩
      exact q_then_panic (endE_panic ⟨rfl, ((k.trans k3).trans k4).trans (k5.trans k6), fun h => hf2 (by rw [Int.natAbs_natCast]; exact h.2)⟩)
  · rintro ch w3 ⟨rfl, k3, hf⟩
    exact q_then_panic (endE_panic ⟨rfl, k.trans k3, fun h => hf h.1⟩)

/-- What the deferred closure does: nothing, or it gives 0 and the error. -/
theorem rcatch_idle {w : World} {g1 g2 : Nat} : GivesD Tryz.prog 151 [.pointer (some ⟨g1, 0, none⟩), .pointer (some ⟨g2, 0, none⟩)] .returning w fun u' w' => u' = .returning ∧ w' = w := by
  refine givesD_recover Tryz.func151 rfl rfl rfl rfl rfl (.inl ⟨rfl, rfl, rfl⟩) ?_
  repeat (first | refine r_neq_nilIface rfl ?_ | refine wp_seq_region ?_ | refine wp_region ?_ | refine r_move (by conv => (lhs; whnf)) ?_ | refine r_nil ?_ | refine q_then ?_ | refine wp_skip ?_ | refine wp_cond_false rfl ?_)
  exact ⟨[], rfl, rfl, rfl⟩
theorem rcatch_big {w : World} {g1 g2 : Nat} {cs1 : List Value} {e : Value} (h1 : Blk w g1 34 cs1) (hl : cs1.length = 3) (h2 : Blk w g2 38 [e]) :
    GivesD Tryz.prog 151 [.pointer (some ⟨g1, 0, none⟩), .pointer (some ⟨g2, 0, none⟩)] (.panicking tooBig) w fun u' w' => settle u' = .returning ∧
      Keeps (fun k => k ≠ g1 ∧ k ≠ g2) w w' ∧ Blk w' g1 34 [.bool false, .slice none 0 0, .slice none 0 0] ∧ Blk w' g2 38 [.int .i64 11] := by
  have hne : g1 ≠ g2 := h1.ne h2 (by decide)
  refine givesD_recover Tryz.func151 rfl rfl rfl rfl rfl (.inr ⟨_, rfl, rfl, rfl⟩) ?_
  repeat (first | refine r_neq_iface rfl ?_ | refine r_assert rfl ?_ | refine wp_seq_region ?_ | refine wp_seq_seq ?_ | refine wp_region ?_ | refine r_move (by conv => (lhs; whnf)) ?_ | refine r_nil ?_ | refine q_then ?_ | refine r_extract rfl rfl ?_ | refine wp_cond_true rfl ?_)
  refine r_alloc (cs := []) rfl ?_
  intro w1 g3 k1 hg3 hgs3
  have hl1 := h1.lt
  have hl2 := h2.lt
  refine r_store_all (us := []) rfl (by conv => (lhs; whnf)) rfl rfl hg3 rfl (fun v hv => by cases hv) ?_
  intro w2 k2 hg32
  repeat (first | refine r_not rfl ?_ | refine wp_seq_region ?_ | refine wp_region ?_ | refine r_move (by conv => (lhs; whnf)) ?_ | refine r_assign (by conv => (lhs; whnf)) ?_ | refine r_nil ?_ | refine q_then ?_ | refine wp_skip ?_ | refine wp_cond_false rfl ?_)
  refine r_alloc (cs := [.bool false, .slice none 0 0, .slice none 0 0]) rfl ?_
  intro w3 g5 k3 hg5 hgs5
  have k : Ext w w3 := (Keeps.past k1 k2 hgs3).trans k3
  repeat (first | refine r_load_all rfl hg5 rfl ?_ | refine wp_region ?_ | refine r_nil ?_)
  refine r_store3 rfl (by conv => (lhs; whnf)) (h1.to k) hl rfl rfl rfl ?_
  intro w4 k4 h14
  skip
  refine r_store (u := .int .i64 11) rfl rfl ((h2.to k).wr k4 (fun e => hne e.symm)) (show 0 < 1 by decide) rfl ?_
  intro w5 k5 h25
  repeat (first | refine r_nil ?_)
  refine ⟨[], rfl, rfl, ?_, h14.wr k5 hne, h25⟩
  exact ((Keeps.of k).trans (k4.mono fun i hi => hi.1)).trans (k5.mono fun i hi => hi.2)

theorem icatch_idle {w : World} {g1 g2 : Nat} : GivesD Tryz.prog 142 [.pointer (some ⟨g1, 0, none⟩), .pointer (some ⟨g2, 0, none⟩)] .returning w fun u' w' => u' = .returning ∧ w' = w := by
  refine givesD_recover Tryz.func142 rfl rfl rfl rfl rfl (.inl ⟨rfl, rfl, rfl⟩) ?_
  repeat (first | refine r_neq_nilIface rfl ?_ | refine wp_seq_region ?_ | refine wp_region ?_ | refine r_move (by conv => (lhs; whnf)) ?_ | refine r_nil ?_ | refine q_then ?_ | refine wp_skip ?_ | refine wp_cond_false rfl ?_)
  exact ⟨[], rfl, rfl, rfl⟩
theorem icatch_big {w : World} {g1 g2 : Nat} {cs1 : List Value} {e : Value} (h1 : Blk w g1 26 cs1) (hl : cs1.length = 2) (h2 : Blk w g2 38 [e]) :
    GivesD Tryz.prog 142 [.pointer (some ⟨g1, 0, none⟩), .pointer (some ⟨g2, 0, none⟩)] (.panicking tooBig) w fun u' w' => settle u' = .returning ∧
      Keeps (fun k => k ≠ g1 ∧ k ≠ g2) w w' ∧ Blk w' g1 26 [.bool false, .slice none 0 0] ∧ Blk w' g2 38 [.int .i64 11] := by
  have hne : g1 ≠ g2 := h1.ne h2 (by decide)
  refine givesD_recover Tryz.func142 rfl rfl rfl rfl rfl (.inr ⟨_, rfl, rfl, rfl⟩) ?_
  repeat (first | refine r_neq_iface rfl ?_ | refine r_assert rfl ?_ | refine wp_seq_region ?_ | refine wp_seq_seq ?_ | refine wp_region ?_ | refine r_move (by conv => (lhs; whnf)) ?_ | refine r_nil ?_ | refine q_then ?_ | refine r_extract rfl rfl ?_ | refine wp_cond_true rfl ?_)
  refine r_alloc (cs := []) rfl ?_
  intro w1 g3 k1 hg3 hgs3
  have hl1 := h1.lt
  have hl2 := h2.lt
  refine r_store_all (us := []) rfl (by conv => (lhs; whnf)) rfl rfl hg3 rfl (fun v hv => by cases hv) ?_
  intro w2 k2 hg32
  repeat (first | refine r_not rfl ?_ | refine wp_seq_region ?_ | refine wp_region ?_ | refine r_move (by conv => (lhs; whnf)) ?_ | refine r_assign (by conv => (lhs; whnf)) ?_ | refine r_nil ?_ | refine q_then ?_ | refine wp_skip ?_ | refine wp_cond_false rfl ?_)
  refine r_alloc (cs := [.bool false, .slice none 0 0]) rfl ?_
  intro w3 g5 k3 hg5 hgs5
  have k : Ext w w3 := (Keeps.past k1 k2 hgs3).trans k3
  repeat (first | refine r_load_all rfl hg5 rfl ?_ | refine wp_region ?_ | refine r_nil ?_)
  refine r_store_all (us := [.bool false, .slice none 0 0]) rfl (by conv => (lhs; whnf)) rfl rfl (h1.to k) hl (ones2 rfl rfl) ?_
  intro w4 k4 h14
  skip
  refine r_store (u := .int .i64 11) rfl rfl ((h2.to k).wr k4 (fun e => hne e.symm)) (show 0 < 1 by decide) rfl ?_
  intro w5 k5 h25
  repeat (first | refine r_nil ?_)
  refine ⟨[], rfl, rfl, ?_, h14.wr k5 hne, h25⟩
  exact ((Keeps.of k).trans (k4.mono fun i hi => hi.1)).trans (k5.mono fun i hi => hi.2)
end Go.Proofs.YtpmnjjmngogkkaaGreatDoor
