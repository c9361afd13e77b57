/- A multiple of a row is taken from another one. -/
import Derived.Test.YtpmnjjmngogkkaaGreatDoorChk
set_option linter.unusedVariables false
set_option linter.unusedSimpArgs false
namespace Go.Proofs.YtpmnjjmngogkkaaGreatDoor
open Go Go.RowKit

theorem agree_base {W : List (Nat × Nat)} {ρ ρ' : Fr} {d : Nat} {v : Value} (hd : inW W d = true) (h : Agree W ρ ρ') : Agree W (upd ρ d v) ρ' := by
  intro i hi
  rw [h i hi, upd_ne]
  cases hb : Nat.beq i d with
  | false => rfl
  | true => rw [Nat.eq_of_beq_eq_true hb, hd] at hi; cases hi
theorem RatV.wrT {S : Nat → Prop} {w w' : World} {v : Value} {q : Rat} {g : Nat} {T' : TypeId} {ds : List Value} (h : RatV S w v q) (k : Wrt g w w') (hb : Blk w g T' ds) (hT : T' ≠ 127) : RatV S w' v q :=
  let ⟨m, b, h1, h2, h3⟩ := h; ⟨m, b, h1, h2.wrT k hb hT, h3.wrT k hb hT⟩
theorem Rats.wrT {S : Nat → Prop} {w w' : World} {g : Nat} {T' : TypeId} {ds : List Value} (k : Wrt g w w') (hb : Blk w g T' ds) (hT : T' ≠ 127) : ∀ {ts : List Tri} {l : List Rat}, Rats S w ts l → Rats S w' ts l
  | [], [], _ => trivial
  | _ :: _, _ :: _, ⟨h1, h2⟩ => ⟨h1.wrT k hb hT, Rats.wrT k hb hT h2⟩
theorem Rats.set {S : Nat → Prop} {w : World} {t : Tri} {q : Rat} (hq : RatV S w t.val q) : ∀ {ts : List Tri} {l : List Rat} {j : Nat}, Rats S w ts l → Rats S w (ts.set j t) (l.set j q)
  | [], [], _, _ => trivial
  | _ :: _, _ :: _, 0, ⟨_, h2⟩ => ⟨hq, h2⟩
  | _ :: _, _ :: _, j + 1, ⟨h1, h2⟩ => ⟨h1, Rats.set hq h2⟩
theorem RatV.ones {S : Nat → Prop} {w : World} {t : Tri} {q : Rat} (h : RatV S w t.val q) : t.1.oneCell' = true ∧ t.2.1.oneCell' = true ∧ t.2.2.oneCell' = true := by
  obtain ⟨m, b, he, hm, hb⟩ := h
  obtain ⟨x, y, z⟩ := t
  unfold Tri.val at he
  simp only [Value.agg.injEq, List.toArray_eq_iff] at he
  have h1 : [x, y, z] = [.bool (tst (q.num < 0)), m, b] := by simpa using he
  simp only [List.cons.injEq, and_true] at h1
  obtain ⟨rfl, rfl, rfl⟩ := h1
  exact ⟨rfl, hm.one, hb.one⟩
theorem mkRat_le (z : Int) {d : Nat} (hd : 0 < d) : (mkRat z d).num.natAbs ≤ z.natAbs ∧ (mkRat z d).den ≤ d := by
  obtain ⟨h1, h2, _, _⟩ := mkRat_parts z hd
  rw [h1, h2]
  exact ⟨Nat.div_le_self .., Nat.div_le_self ..⟩
theorem rl_mul {a b : Rat} {n m : Nat} (ha : rl a n) (hb : rl b m) : rl (a * b) (n + m) := by
  rw [rat_times]
  obtain ⟨h1, h2⟩ := mkRat_le (a.num * b.num) (Nat.mul_pos a.den_pos b.den_pos)
  have h3 := dl_mul a.num.natAbs b.num.natAbs
  have h4 := dl_mul a.den b.den
  rw [Int.natAbs_mul] at h1
  obtain ⟨a1, a2⟩ := ha
  obtain ⟨b1, b2⟩ := hb
  exact ⟨Nat.le_trans (dl_mono h1) (by omega), Nat.le_trans (dl_mono h2) (by omega)⟩
theorem rl_mono {a : Rat} {n m : Nat} (h : rl a n) (hm : n ≤ m) : rl a m := ⟨Nat.le_trans h.1 hm, Nat.le_trans h.2 hm⟩
def takeL (c : Rat) : List Rat → List Rat → List Rat
  | d :: ds, f :: fs => (d - c * f) :: takeL c ds fs
  | ds, _ => ds
theorem takeL_nil (c : Rat) (ds : List Rat) : takeL c ds [] = ds := by cases ds <;> rfl
theorem takeL_at (c : Rat) : ∀ (ds fs : List Rat) (i : Nat), (takeL c ds (fs.take i))[i]? = ds[i]?
  | [], fs, i => by cases fs <;> simp [takeL]
  | d :: ds, [], i => by simp [takeL]
  | d :: ds, f :: fs, 0 => by simp [takeL]
  | d :: ds, f :: fs, i + 1 => by simp [takeL, takeL_at c ds fs i]
theorem takeL_step (c : Rat) : ∀ (ds fs : List Rat) (i : Nat) {d f : Rat}, ds[i]? = some d → fs[i]? = some f → takeL c ds (fs.take (i + 1)) = (takeL c ds (fs.take i)).set i (d - c * f)
  | [], fs, i, d, f, h, _ => by simp at h
  | d :: ds, [], i, _, _, _, h => by simp at h
  | d :: ds, f :: fs, 0, _, _, h1, h2 => by
    simp at h1 h2
    subst h1 h2
    simp [takeL, takeL_nil]
  | d :: ds, f :: fs, i + 1, _, _, h1, h2 => by
    have := takeL_step c ds fs i (by simpa using h1) (by simpa using h2)
    simp [takeL, this]
theorem takeL_length (c : Rat) : ∀ (ds fs : List Rat), (takeL c ds fs).length = ds.length
  | [], fs => by cases fs <;> rfl
  | d :: ds, [] => rfl
  | d :: ds, f :: fs => by simp [takeL, takeL_length c ds fs]

theorem take_c {S : Nat → Prop} {w : World} {gd nd capd gf nf capf : Nat} {td tf : List Tri} {ld lf : List Rat} {vc : Value} {c : Rat} (hS : Up S w) (hc : RatV S w vc c) (hlc : rl c 100000000000)
    (hd : Blk w gd 34 (flat td)) (hrd : Rats S w td ld) (hld : ∀ q ∈ ld, rl q 100000000000) (hf : Blk w gf 34 (flat tf)) (hrf : Rats S w (tf.take nf) lf) (hnf : nf ≤ tf.length) (hlf : ∀ q ∈ lf, rl q 100000000000)
    (hne : gd ≠ gf) (hnd : nd = td.length) (hn : nf ≤ nd) (hnn : nd ≤ 1000000000) :
    Gives Tryz.prog 165 [.slice (some ⟨gd, 0, none⟩) nd capd, vc, .slice (some ⟨gf, 0, none⟩) nf capf] w fun v' w' => Wrt gd w w' ∧ ∃ td', Blk w' gd 34 (flat td') ∧ Rats S w' td' (takeL c ld lf) := by
  have hlen : lf.length = nf := by rw [← hrf.length, List.length_take]; omega
  have hlend : ld.length = nd := by rw [← hrd.length, hnd]
  obtain ⟨mc, bc, rfl, hmc, hbc⟩ := hc
  have hc : RatV S w (.agg #[.bool (tst (c.num < 0)), mc, bc]) c := ⟨mc, bc, rfl, hmc, hbc⟩
  refine gives_of Tryz.func165 rfl rfl rfl ?_
  repeat (first | refine wp_seq_region ?_ | refine wp_region ?_)
  refine r_box (cs := [.bool (tst (c.num < 0)), mc, bc]) (by conv => (lhs; whnf)) rfl ?_
  intro w1 gc k1 hgc hgsc
  have hdl := hd.lt
  have hfl := hf.lt
  repeat (first | refine wp_seq_region ?_ | refine wp_region ?_ | refine r_move (by conv => (lhs; whnf)) ?_ | refine r_nil ?_ | refine q_then ?_ | refine r_len_sl rfl ?_)
  try refine wp_seq_block ?_
  refine wp_for [(6, 7), (10, 32)] (fun k ρ w' => ∃ (i : Nat) (ti : List Tri), ρ 10 = .int .i64 (i : Int) ∧ i + k = nf ∧ Wrt gd w1 w' ∧ Blk w' gd 34 (flat ti) ∧ Rats S w' ti (takeL c ld (lf.take i))) nf ?_ ?_
  · exact ⟨0, td, rfl, by omega, .refl, hd.to k1, by rw [List.take_zero, takeL_nil]; exact hrd.to k1⟩
  rintro k u w2 ⟨i, ti, h10, hik, k2, hdi, hri⟩
  refine wp_learn 10 h10 ?_
  have hS2 : Up S w2 := fun j hj => hS j (by have := k1.size; have := k2.size; omega)
  have hgc2 := hgc.wr k2 (by omega)
  have hf2 := (hf.to k1).wr k2 (fun e => hne e.symm)
  have hrf2 := (hrf.to k1).wrT k2 (hd.to k1) (by decide)
  have hc2 := (hc.to k1).wrT k2 (hd.to k1) (by decide)
  have hti : ti.length = nd := by rw [hri.length, takeL_length, hlend]
  repeat (first | refine wp_seq_region ?_ | refine wp_region ?_ | refine r_nil ?_ | refine q_then ?_ | refine r_lss rfl rfl ?_)
  try refine wp_seq_cond ?_
  refine wp_cond_dec rfl ?_ ?_ <;> intro hlt
  · obtain ⟨x, hx⟩ : ∃ q, lf[i]? = some q := ⟨lf[i]'(by omega), List.getElem?_eq_getElem (by omega)⟩
    obtain ⟨d, hdd⟩ : ∃ q, ld[i]? = some q := ⟨ld[i]'(by omega), List.getElem?_eq_getElem (by omega)⟩
    obtain ⟨tx, htx, hxv⟩ := hrf2.get hx
    have htx' : tf[i]? = some tx := by rw [List.getElem?_take] at htx; split at htx; exact htx; cases htx
    obtain ⟨tdd, htd, hdv⟩ := hri.get ((takeL_at c ld lf i).trans hdd)
    have hlx := hlf x (List.mem_of_getElem? hx)
    have hldd := hld d (List.mem_of_getElem? hdd)
    repeat (first | refine wp_seq_region ?_ | refine wp_seq_bseq ?_ | refine wp_region ?_ | refine r_move (by conv => (lhs; whnf)) ?_ | refine wp_block_seq ?_ | refine wp_skip ?_ | refine r_index_sl rfl rfl (by omega) (by omega) ?_)
    refine r_load_tri i rfl (by omega) hf2 htx' ?_
    refine r_alloc (cs := [.bool false, .slice none 0 0, .slice none 0 0]) rfl ?_
    intro w3 gx k3 hgx hgsx
    repeat (first | refine r_assign (by conv => (lhs; whnf)) ?_)
    have hxo := hxv.ones
    refine r_store3 rfl rfl hgx rfl hxo.1 hxo.2.1 hxo.2.2 ?_
    intro w4 k4 hgx4
    have k34 : Ext w2 w4 := k3.past k4 hgsx
    have hgx4' : Blk w4 gx 34 (flat [tx]) := hgx4
    have hgd4 := hdi.to k34
    have hgc4 := hgc2.to k34
    have hx4 := hxv.to k34
    have hd4 := hdv.to k34
    have hc4 := hc2.to k34
    have hS4 := hS2.to k34
    repeat (first | refine r_load_all rfl hgx4 rfl ?_ | refine r_iface rfl ?_ | refine wp_seq_region ?_ | refine wp_region ?_ | refine r_nil ?_)
    refine r_invoke meth_sign rfl (rsign_c (v := tx.val) hx4) rfl ?_
    rintro v5 w5 ⟨rfl, k5⟩
    replace hgx4 := hgx4.to k5
    replace hgd4 := hgd4.to k5
    replace hgc4 := hgc4.to k5
    replace hx4 := hx4.to k5
    replace hd4 := hd4.to k5
    replace hc4 := hc4.to k5
    replace hS4 := hS4.to k5
    have k25 := k34.trans k5
    repeat (first | refine r_nil ?_ | refine q_then ?_ | refine r_neq rfl rfl ?_)
    first | refine wp_seq_block ?_ | refine wp_thenB ?_ | refine wp_thenBB ?_ | skip
    refine wp_mid [(19, 31)] (fun ρ w' => Wrt gd w1 w' ∧ ∃ ti, Blk w' gd 34 (flat ti) ∧ Rats S w' ti (takeL c ld (lf.take (i + 1)))) ?_ ?_
    · try refine wp_seq_cond ?_
      refine wp_cond_dec rfl ?_ ?_ <;> intro hz
      · refine wp_drawn 13 (by kernel_rfl) (by kernel_rfl) ?_
        apply ob_step
        · intro x w1 k1 hd
          refine r_move (by conv => (lhs; whnf)) ?_
          refine r_nil ?_
          exact ob_eq
        apply ob_step
        · intro x w1 k1 hd
          refine r_move (by conv => (lhs; whnf)) ?_
          refine r_nil ?_
          exact ob_eq
        apply ob_step
        · intro x w1 k1 hd
          refine r_move (by conv => (lhs; whnf)) ?_
          refine r_nil ?_
          exact ob_eq
        apply ob_step
        · intro x w1 k1 hd
          refine r_move (by conv => (lhs; whnf)) ?_
          refine r_nil ?_
          exact ob_eq
        apply ob_step
        · intro x w1 k1 hd
          refine r_index_sl rfl rfl (by omega) (by omega) ?_
          refine r_nil ?_
          exact ob_eq
        apply ob_step
        · intro x w1 k1 hd
          refine r_load_tri i rfl (by omega) (hgd4.to k1) htd ?_
          refine r_nil ?_
          exact ob_eq
        apply ob_step
        · intro x w1 k1 hd
          refine r_iface (by conv => (lhs; whnf)) ?_
          refine r_nil ?_
          exact ob_eq
        apply ob_step
        · intro x w1 k1 hd
          refine r_load_all rfl (hgc4.to k1) rfl ?_
          refine r_nil ?_
          exact ob_eq
        apply ob_step
        · intro x w1 k1 hd
          refine r_iface (by conv => (lhs; whnf)) ?_
          refine r_nil ?_
          exact ob_eq
        apply ob_step
        · intro x w1 k1 hd
          refine r_load_all rfl (hgx4.to k1) rfl ?_
          refine r_nil ?_
          exact ob_eq
        refine ob_step (e := ratE S (c * x)) ?_ ?_
        · intro x w1 k1 hd
          refine r_invoke meth_times rfl (rtimes_c (vb := tx.val) (hS4.to k1) (hc4.to k1) (hx4.to k1) (rl_mono hlc (by omega)) (rl_mono hlx (by omega))) rfl ?_
          rintro v2 w2 ⟨k2, h2⟩
          exact r_nil (ob_of k2 h2)
        refine ob_step (e := ratE S (d - c * x)) ?_ ?_
        · intro x w1 k1 hd
          refine r_invoke meth_minus rfl (rminus_c (va := tdd.val) (hS4.to k1) (hd4.to k1) hd.1 (rl_mono hldd (by omega)) (rl_mono (rl_mul hlc hlx) (by omega))) rfl ?_
          rintro v2 w2 ⟨k2, h2⟩
          exact r_nil (ob_of k2 h2)
        apply ob_step
        · intro x w1 k1 hd
          refine r_index_sl rfl rfl (by omega) (by omega) ?_
          refine r_nil ?_
          exact ob_eq
        refine ob_nil (ob_end ?_)
        intro x5 w6 k6 hall
        obtain ⟨t6, ht6, h6, o1, o2, o3⟩ := RatV.tri (show RatV S w6 (x5 11) (d - c * x) from hall.2.1)
        refine r_store_tri i rfl (by omega) ht6 (hgd4.to k6) (by omega) o1 o2 o3 ?_
        intro w7 k7 hgd7
        repeat (first | refine r_nil ?_ | refine q_then ?_)
        refine ⟨by (repeat (first | refine agree_upd rfl ?_ | exact agree_over | refine agree_sub rfl ?_ | exact agree_refl)), ?_, _, hgd7, ?_⟩
        · exact (k2.trans (Keeps.of (k25.trans k6))).trans k7
        · rw [takeL_step c ld lf i hdd hx]
          exact Rats.set (h6.wrT k7 (hgd4.to k6) (by decide)) (((hri.to k25).to k6).wrT k7 (hgd4.to k6) (by decide))
      · repeat (first | refine q_then ?_ | refine wp_skip ?_)
        have hx0 : x = 0 := by
          have : x.num = 0 := Int.sign_eq_zero_iff_zero.1 (Classical.not_not.1 hz)
          exact Rat.num_eq_zero.1 this
        refine ⟨by (repeat (first | refine agree_upd rfl ?_ | exact agree_over | refine agree_sub rfl ?_ | exact agree_refl)), k2.trans (Keeps.of k25), ti, hgd4, ?_⟩
        rw [takeL_step c ld lf i hdd hx, hx0, Rat.mul_zero, show d - 0 = d by grind]
        have e : (takeL c ld (lf.take i)).set i d = takeL c ld (lf.take i) := by
          have h1 := (takeL_at c ld lf i).trans hdd
          refine List.ext_getElem? fun j => ?_
          rw [List.getElem?_set]
          split
          · rename_i e; subst e
            split
            · rw [h1]
            · rename_i h; rw [List.getElem?_eq_none (by omega)]
          · rfl
        rw [e]
        exact hri.to k25
    rintro u2 w6 ⟨k6, t6, hgd6, hr6⟩
    repeat (first | refine wp_region ?_ | refine r_move (by conv => (lhs; whnf)) ?_ | refine r_nil ?_ | refine q_then ?_ | refine r_addI rfl rfl (by omega) (by omega) ?_)
    exact ⟨by (repeat (first | refine agree_upd rfl ?_ | exact agree_over | refine agree_sub rfl ?_ | exact agree_refl)), k - 1, by omega, i + 1, t6, congrArg (Value.int .i64) (by omega), by omega, k6, hgd6, hr6⟩
  · repeat (first | refine wp_exit ?_ | refine q_then_exit ?_ | refine q_block_hit rfl ?_)
    refine ⟨[], rfl, ?_, ti, hdi, ?_⟩
    · exact (Keeps.of k1).trans k2
    · rwa [List.take_of_length_le (by omega)] at hri
end Go.Proofs.YtpmnjjmngogkkaaGreatDoor
