/- The reference's natural numbers: quotients with rests, greatest divisors. -/
import Derived.Test.YtpmnjjmngogkkaaGreatDoorRef2
import Derived.Test.YtpmnjjmngogkkaaGreatDoorStr
set_option linter.unusedVariables false
set_option linter.unusedSimpArgs false
namespace Go.Proofs.YtpmnjjmngogkkaaGreatDoor
open Go Go.RowKit

/-- The factor that makes the highest limb large. -/
theorem scale_le {b t D l : Nat} (hl : 0 < l) (hb : b < (t + 1) * 1000000000 ^ (l - 1)) (hD : D * (t + 1) ≤ 1000000000) : b * D < 1000000000 ^ l := by
  rcases Nat.eq_zero_or_pos D with rfl | h0
  · simp; exact Nat.pow_pos (by omega)
  · have h1 : b * D < (t + 1) * 1000000000 ^ (l - 1) * D := Nat.mul_lt_mul_of_pos_right hb h0
    have h2 : (t + 1) * 1000000000 ^ (l - 1) * D = D * (t + 1) * 1000000000 ^ (l - 1) := by rw [Nat.mul_comm, ← Nat.mul_assoc]
    have h3 : D * (t + 1) * 1000000000 ^ (l - 1) ≤ 1000000000 * 1000000000 ^ (l - 1) := Nat.mul_le_mul_right _ hD
    have h4 : 1000000000 * 1000000000 ^ (l - 1) = 1000000000 ^ l := by
      obtain ⟨j, rfl⟩ : ∃ j, l = j + 1 := ⟨l - 1, by omega⟩
      rw [Nat.add_sub_cancel, Nat.pow_succ, Nat.mul_comm]
    omega
/-- A guess by the highest limbs is never too much. -/
theorem guess_le {s y p t h n : Nat} (hp : 0 < p) (ht : t = s / p) (hh : h = y / p + 1) (hn : n ≤ max 1 (min 999999999 (t / h))) (hys : y ≤ s) : y * n ≤ s := by
  rcases Nat.lt_or_ge (t / h) 1 with h1 | h1
  · have : n ≤ 1 := by omega
    calc y * n ≤ y * 1 := Nat.mul_le_mul_left _ this
      _ ≤ s := by omega
  · have h2 : n ≤ t / h := by omega
    have h3 : y < h * p := by
      rw [hh]
      have := Nat.lt_div_mul_add (a := y) hp
      rw [Nat.add_mul, Nat.one_mul]
      exact this
    have h4 : h * n ≤ t := Nat.le_trans (Nat.mul_le_mul_left _ h2) (Nat.mul_div_le t h)
    calc y * n ≤ h * p * n := Nat.mul_le_mul_right _ (Nat.le_of_lt h3)
      _ = p * (h * n) := by rw [Nat.mul_assoc, Nat.mul_left_comm]
      _ ≤ p * t := Nat.mul_le_mul_left _ h4
      _ ≤ s := by rw [ht]; exact Nat.mul_div_le s p
theorem top_digit {a : Nat} (h : 0 < dl a) : (dg a).getD ((dg a).length - 1) 0 = a / 1000000000 ^ ((dg a).length - 1) := (div_top h).symm
theorem div_lt_sq {s y i : Nat} (hy : s < y * 1000000000) (hi : dl y - 1 ≤ i) : s / 1000000000 ^ i < 1000000000000000000 := by
  have h1 := lt_pow_dl y
  have h2 : 1000000000 ^ dl y ≤ 1000000000 ^ (i + 1) := Nat.pow_le_pow_right (by omega) (by omega)
  rw [Nat.pow_succ] at h2
  have h3 : s < 1000000000000000000 * 1000000000 ^ i := by
    generalize 1000000000 ^ i = p at h2
    generalize 1000000000 ^ dl y = r at h1 h2
    omega
  rw [Nat.mul_comm] at h3
  exact Nat.div_lt_of_lt_mul h3

set_option maxHeartbeats 2000000 in
theorem divN_c {S : Nat → Prop} {w : World} {va vb : Value} {a b : Nat} (hS : Up S w) (ha : NatV S 3 .i64 w va a) (hb : NatV S 3 .i64 w vb b) (hla : dl a ≤ 15999999999000) (hlb : dl b ≤ 15999999999000) (hb0 : 0 < b) :
    Gives Tryz.prog 102 [va, vb] w fun v' w' => ∃ vq vr, v' = .tuple #[vq, vr] ∧ Ext w w' ∧ NatV S 3 .i64 w' vq (a / b) ∧ NatV S 3 .i64 w' vr (a % b) := by
  have hla' : (dg a).length ≤ 15999999999000 := hla
  have hlb' : (dg b).length ≤ 15999999999000 := hlb
  have hbl : 0 < (dg b).length := dl_pos (n := b) (by omega)
  have htd := dg_lt b ((dg b).length - 1)
  have htb : b < ((dg b).getD ((dg b).length - 1) 0 + 1) * 1000000000 ^ ((dg b).length - 1) := by
    rw [top_digit hbl, Nat.add_mul, Nat.one_mul]
    exact Nat.lt_div_mul_add (Nat.pow_pos (by omega))
  refine gives_of Tryz.func102 rfl rfl rfl ?_
  repeat (first | refine r_index1 (i := (dg b).length - 1) (by conv => (lhs; whnf)) rfl (by omega) hb (by omega) ?_ | refine r_load_dig rfl hb (by omega) ?_ | refine wp_seq_region ?_ | refine wp_region ?_ | refine r_move (by conv => (lhs; whnf)) ?_ | refine r_assign (by conv => (lhs; whnf)) ?_ | refine r_nil ?_ | refine r_len (by conv => (lhs; whnf)) (by assumption) ?_ | refine r_addI rfl rfl (by omega) (by omega) ?_ | refine r_subI rfl rfl (by omega) (by omega) ?_ | refine r_quoI rfl rfl (by omega) (by omega) (by omega) ?_)
  obtain ⟨t, ht⟩ : ∃ t, t = (dg b).getD ((dg b).length - 1) 0 := ⟨_, rfl⟩
  rw [← ht] at htd htb ⊢
  obtain ⟨D, hD⟩ : ∃ D, D = 1000000000 / (t + 1) := ⟨_, rfl⟩
  have hDi : (1000000000 : Int) / ((t : Int) + 1) = (D : Int) := by rw [hD]; rfl
  rw [hDi]
  have hD1 : 1 ≤ D := by rw [hD]; exact Nat.div_pos (by omega) (by omega)
  have hD2 : D * (t + 1) ≤ 1000000000 := by rw [hD]; exact Nat.div_mul_le_self ..
  have hD3 : D ≤ 1000000000 := by rw [hD]; exact Nat.div_le_self ..
  skip
  refine r_call (rtimes1_c hS ha (by omega) hD3) rfl ?_
  rintro vx w1 ⟨k1, hx⟩
  repeat (first | refine r_move (by conv => (lhs; whnf)) ?_)
  refine r_call (rtimes1_c (hS.to k1) (hb.to k1) (by omega) hD3) rfl ?_
  rintro vy w2 ⟨k2, hy⟩
  replace hx := hx.to k2
  have k12 := k1.trans k2
  have hxa : dl (a * D) ≤ dl a + 1 := by
    refine dl_le ?_
    have h4 := lt_pow_dl a
    have h5 : a * D ≤ a * 1000000000 := Nat.mul_le_mul_left _ hD3
    rw [Nat.pow_succ]
    omega
  obtain ⟨x, hxd⟩ : ∃ x, x = a * D := ⟨_, rfl⟩
  obtain ⟨y, hyd⟩ : ∃ y, y = b * D := ⟨_, rfl⟩
  rw [← hxd] at hx hxa
  rw [← hyd] at hy
  have hyb : y < 1000000000 ^ dl b := by rw [hyd]; exact scale_le hbl htb hD2
  have hy0 : 0 < y := by rw [hyd]; exact Nat.mul_pos hb0 hD1
  have hyl : dl y ≤ dl b := dl_le hyb
  have hyp : 0 < dl y := dl_pos (by omega)
  have hyl' : (dg y).length = dl y := rfl
  have hxl' : (dg x).length = dl x := rfl
  have htd2 := dg_lt y ((dg y).length - 1)
  repeat (first | refine r_index1 (i := (dg y).length - 1) (by conv => (lhs; whnf)) rfl (by omega) hy (by omega) ?_ | refine r_load_dig rfl hy (by omega) ?_ | refine wp_seq_region ?_ | refine wp_region ?_ | refine r_move (by conv => (lhs; whnf)) ?_ | refine r_assign (by conv => (lhs; whnf)) ?_ | refine r_nil ?_ | refine r_len (by conv => (lhs; whnf)) (by assumption) ?_ | refine r_addI rfl rfl (by omega) (by omega) ?_ | refine r_subI rfl rfl (by omega) (by omega) ?_)
  have hhi : (((dg y).getD ((dg y).length - 1) 0 : Nat) : Int) + 1 = ((y / 1000000000 ^ (dl y - 1) + 1 : Nat) : Int) := by rw [top_digit hyp]; rfl
  have hhb : y / 1000000000 ^ (dl y - 1) + 1 ≤ 1000000000 := by rw [← hyl', ← top_digit hyp]; omega
  rw [hhi]
  obtain ⟨h, hh⟩ : ∃ h, h = y / 1000000000 ^ (dl y - 1) + 1 := ⟨_, rfl⟩
  rw [← hh] at hhb ⊢
  have hh0 : 0 < h := by omega
  clear htd2 hhi htd htb hDi ha hb
  refine r_make (l := (dg x).length) (c := (dg x).length) rfl rfl rfl rfl (Nat.le_refl _) (by omega) (by unfold maxLen; omega) ?_
  intro w3 q k3 hg hgs
  have hg : Blk w3 q 3 ((List.replicate (dg x).length 0).map fun d : Nat => .int .i64 d) := by
    simpa [toList_madeCells_one, Value.cells, List.map_replicate] using hg
  have hs12 := k12.size
  have hq := hg.lt
  have hS3 : Up (fun k => S k ∧ k ≠ q) w3 := fun i hi => ⟨hS i (by have := k3.size; omega), by omega⟩
  have hx3 := (hx.mono (S' := fun k => S k ∧ k ≠ q) fun i hi hs => ⟨hs, by omega⟩).to k3
  have hy3 := (hy.mono (S' := fun k => S k ∧ k ≠ q) fun i hi hs => ⟨hs, by omega⟩).to k3
  replace k12 := k12.trans k3
  repeat (first | refine wp_seq_region ?_ | refine wp_seq_seq ?_ | refine wp_region ?_ | refine r_move (by conv => (lhs; whnf)) ?_ | refine r_assign (by conv => (lhs; whnf)) ?_ | refine r_nil ?_ | refine q_then ?_ | refine r_len (by conv => (lhs; whnf)) (by assumption) ?_ | refine r_subI rfl rfl (by omega) (by omega) ?_)
  try refine wp_seq_block ?_
  refine wp_for [(11, 15), (45, 97)] (fun k ρ w' => ∃ (o : List Nat) (r : Nat) (vr : Value), ρ 12 = .int .i64 ((k : Int) - 1) ∧ ρ 11 = vr ∧ r < y ∧ k ≤ o.length ∧ o.length = (dg x).length ∧ Digs o ∧ (∀ j, j < k → o.getD j 0 = 0) ∧
        nval ((dg x).drop k) = nval (o.drop k) * y + r ∧ Blk w' q 3 (o.map fun d : Nat => .int .i64 d) ∧ NatV (fun k => S k ∧ k ≠ q) 3 .i64 w' vr r ∧ Keeps (fun k => k ≠ q) w3 w') (dg x).length
      ⟨List.replicate (dg x).length 0, 0, _, rfl, rfl, hy0, by simp, by simp, fun x hx => by rw [List.eq_of_mem_replicate hx]; omega, fun j _ => by simp [List.getD_eq_getElem?_getD, List.getElem?_replicate]; split <;> rfl, by simp [nval], hg, Row.nil, .refl⟩ ?_
  rintro k u w4 ⟨o, r, vr, h12, h11, hr, hko, hol, hod, hz, hv, hg4, hvr, k4⟩
  refine wp_learn 12 h12 (wp_learn 11 h11 ?_)
  clear h12 h11 hg
  have hx4 : NatV (fun k => S k ∧ k ≠ q) 3 .i64 w4 vx x := hx3.keep (k4.mono fun i hi => hi.2)
  have hy4 : NatV (fun k => S k ∧ k ≠ q) 3 .i64 w4 vy y := hy3.keep (k4.mono fun i hi => hi.2)
  have hS4 : Up (fun k => S k ∧ k ≠ q) w4 := fun i hi => hS3 i (by have := k4.size; omega)
  have hq4 := hg4.lt
  repeat (first | refine wp_seq_region ?_ | refine wp_seq_seq ?_ | refine wp_region ?_ | refine r_move (by conv => (lhs; whnf)) ?_ | refine r_nil ?_ | refine q_then ?_ | refine r_geq rfl rfl ?_)
  try refine wp_seq_cond ?_
  refine wp_cond_dec rfl ?_ ?_ <;> intro hk
  · obtain ⟨m, rfl⟩ : ∃ m, k = m + 1 := ⟨k - 1, by omega⟩
    repeat (first | refine r_index1 (i := m) (by conv => (lhs; whnf)) rfl (by omega) hx4 (by omega) ?_ | refine r_load_dig rfl hx4 (by omega) ?_ | refine wp_seq_region ?_ | refine wp_seq_bseq ?_ | refine wp_region ?_ | refine r_move (by conv => (lhs; whnf)) ?_ | refine wp_block_seq ?_ | refine wp_skip ?_)
    have hda := dg_lt x m
    have hdr := drop_step (show m < (dg x).length by omega)
    rw [hv] at hdr
    obtain ⟨d, hd⟩ : ∃ d, d = (dg x).getD m 0 := ⟨_, rfl⟩
    rw [← hd] at hda hdr ⊢
    have hdo := drop_step (show m < o.length by omega)
    have hdl := dl_lt_mul hr hda
    have hrb : (dg r).length ≤ dl y := dl_mono (Nat.le_of_lt hr)
    refine r_lit1 (by conv => (lhs; whnf)) rfl ?_
    intro w5 g5 k5 h5 hg5
    have hs5 := k5.size
    repeat (first | refine wp_seq_region ?_ | refine wp_region ?_ | refine r_move (by conv => (lhs; whnf)) ?_ | refine r_assign (by conv => (lhs; whnf)) ?_ | refine r_nil ?_)
    refine r_append_row (by conv => (lhs; whnf)) (own_blk h5 hg5 (by unfold maxLen; omega) rfl) (by conv => (lhs; whnf)) (hvr.to k5) (by omega) ones_map (by unfold maxLen; omega) (by omega) (by omega) ?_
    intro v6 w6 ho6 k6
    skip
    have hdd : Digs (d :: dg r) := (digs_dg r).cons hda
    refine r_call (rtrim_c (S := fun k => S k ∧ k ≠ q) (v := v6) (l := d :: dg r) ?_ hdd) rfl ?_
    · have h4 := Row.of_own ho6 hS4
      rw [Nat.add_comm] at h4
      exact h4
    rintro v7 w7 ⟨rfl, h7⟩
    have k7 : Ext w4 w7 := Keeps.later k5 k6 fun i hi _ e => by simp [Value.ownBlock] at e; omega
    have h7 : NatV (fun k => S k ∧ k ≠ q) 3 .i64 w7 v7 (d + 1000000000 * r) := by simpa [nval, nval_dg] using h7
    clear ho6 k6 k5 h5 hs5 hdd
    obtain ⟨s0, hs0⟩ : ∃ s, s = d + 1000000000 * r := ⟨_, rfl⟩
    rw [← hs0] at h7 hdl
    have hlt9 : s0 < y * 1000000000 := by omega
    have hom : o.getD m 0 = 0 := hz m (by omega)
    have hset0 : o.set m 0 = o := by
      refine List.ext_getElem (by simp) fun i h1 h2 => ?_
      rw [List.getElem_set]
      split
      · rename_i e
        subst e
        rw [List.getD_eq_getElem?_getD, List.getElem?_eq_getElem h2] at hom
        simpa using hom.symm
      · rfl
    repeat (first | refine r_assign (by conv => (lhs; whnf)) ?_ | refine r_nil ?_ | refine q_then ?_)
    try refine wp_seq_block ?_
    refine wp_for [(11, 11), (14, 15), (58, 97)] (fun k ρ w' => ∃ (g : Nat) (vs : Value), ρ 11 = vs ∧ s0 = y * g + k ∧ g < 1000000000 ∧ Blk w' q 3 ((o.set m g).map fun d : Nat => .int .i64 d) ∧ NatV (fun k => S k ∧ k ≠ q) 3 .i64 w' vs k ∧ Keeps (fun k => k ≠ q) w7 w') s0
      ⟨0, v7, rfl, by omega, by omega, by rw [hset0]; exact hg4.to k7, h7, .refl⟩ ?_
    rintro s u2 w8 ⟨g, vs, h11, hsg, hg9, hg8, hvs, k8⟩
    refine wp_learn 11 h11 ?_
    clear h11
    have hy8 : NatV (fun k => S k ∧ k ≠ q) 3 .i64 w8 vy y := (hy4.to k7).keep (k8.mono fun i hi => hi.2)
    have hS8 : Up (fun k => S k ∧ k ≠ q) w8 := fun i hi => hS4 i (by have := k8.size; have := k7.size; omega)
    have hsl : s ≤ s0 := by omega
    have hsd : (dg s).length ≤ dl s0 := dl_mono hsl
    repeat (first | refine wp_seq_region ?_ | refine wp_seq_seq ?_ | refine wp_region ?_ | refine r_move (by conv => (lhs; whnf)) ?_)
    refine r_call (cmpN_c hvs hy8) rfl ?_
    rintro v9 w9 ⟨k9, c9, rfl, hc9⟩
    repeat (first | refine r_nil ?_ | refine q_then ?_ | refine r_geq rfl rfl ?_)
    try refine wp_seq_cond ?_
    refine wp_cond_dec rfl ?_ ?_ <;> intro hge
    · have hys : y ≤ s := by have := hc9.1; omega
      have hvs9 := hvs.to k9
      have hy9 := hy8.to k9
      have hls : dl y ≤ dl s := dl_mono hys
      have hls' : (dg s).length = dl s := rfl
      repeat (first | refine wp_seq_region ?_ | refine wp_seq_seq ?_ | refine wp_region ?_ | refine r_move (by conv => (lhs; whnf)) ?_ | refine r_assign (by conv => (lhs; whnf)) ?_ | refine r_nil ?_ | refine q_then ?_ | refine wp_block_seq ?_ | refine wp_skip ?_ | refine r_len (by conv => (lhs; whnf)) (by assumption) ?_ | refine r_subI rfl rfl (by omega) (by omega) ?_)
      first | refine wp_seq_block ?_ | refine wp_thenB ?_ | refine wp_thenBB ?_ | skip
      refine wp_mid [(14, 15), (65, 78)] (fun ρ w' => w' = w9 ∧ ρ 14 = .int .i64 ((s / 1000000000 ^ (dl y - 1) : Nat) : Int)) ?_ ?_
      · try refine wp_seq_block ?_
        refine wp_for [(14, 15), (65, 78)] (fun k ρ w' => w' = w9 ∧ ∃ i, k = i + 1 - dl y ∧ dl y ≤ i + 1 ∧ i ≤ dl s ∧ ρ 15 = .int .i64 ((i : Int) - 1) ∧ ρ 14 = .int .i64 ((s / 1000000000 ^ i : Nat) : Int)) (dl s + 1 - dl y) ?_ ?_
        · exact ⟨rfl, dl s, rfl, by omega, Nat.le_refl _, congrArg (Value.int .i64) (by omega), by rw [Nat.div_eq_of_lt (lt_pow_dl s)]; rfl⟩
        rintro k3 u3 w10 ⟨rfl, i, hki, hyi, his, h15, h14⟩
        refine wp_learn 15 h15 (wp_learn 14 h14 ?_)
        clear h15 h14
        repeat (first | refine wp_seq_region ?_ | refine wp_seq_seq ?_ | refine wp_region ?_ | refine r_move (by conv => (lhs; whnf)) ?_ | refine r_nil ?_ | refine q_then ?_ | refine r_len (by conv => (lhs; whnf)) (by assumption) ?_ | refine r_geq rfl rfl ?_ | refine r_subI rfl rfl (by omega) (by omega) ?_)
        try refine wp_seq_cond ?_
        refine wp_cond_dec rfl ?_ ?_ <;> intro hcc
        · obtain ⟨j, rfl⟩ : ∃ j, i = j + 1 := ⟨i - 1, by omega⟩
          have hsq := div_lt_sq (s := s) (y := y) (i := j) (by omega) (by omega)
          have hst := div_step s j
          obtain ⟨p, hp⟩ : ∃ p, p = s / 1000000000 ^ (j + 1) := ⟨_, rfl⟩
          rw [← hp] at hst ⊢
          repeat (first | refine r_mulI rfl rfl (by omega) (by omega) ?_ | refine r_index1 (i := j) (by conv => (lhs; whnf)) rfl (by omega) hvs9 (by omega) ?_ | refine r_load_dig rfl hvs9 (by omega) ?_ | refine wp_seq_bregion ?_ | refine wp_region ?_ | refine r_move (by conv => (lhs; whnf)) ?_ | refine r_assign (by conv => (lhs; whnf)) ?_ | refine r_nil ?_ | refine q_then ?_ | refine wp_block_region ?_ | refine wp_skip ?_ | refine r_addI rfl rfl (by omega) (by omega) ?_ | refine r_subI rfl rfl (by omega) (by omega) ?_)
          refine ⟨by (repeat (first | refine agree_upd rfl ?_ | exact agree_over | refine agree_sub rfl ?_ | exact agree_refl | refine agree_base rfl ?_ | refine agree_base' rfl ?_)), j + 1 - dl y, by omega, rfl, j, rfl, by omega, by omega, congrArg (Value.int .i64) (by omega), congrArg (Value.int .i64) (by rw [hst]; omega)⟩
        · have hid : i = dl y - 1 := by omega
          subst hid
          repeat (first | refine q_then ?_ | refine wp_exit ?_ | refine q_then_exit ?_ | refine q_block_hit rfl ?_)
          exact ⟨by (repeat (first | refine agree_upd rfl ?_ | exact agree_over | refine agree_sub rfl ?_ | exact agree_refl | refine agree_base rfl ?_ | refine agree_base' rfl ?_)), rfl, rfl⟩
      rintro u4 w10 ⟨rfl, h14⟩
      refine wp_learn 14 h14 ?_
      clear h14
      have hsq := div_lt_sq (s := s) (y := y) (i := dl y - 1) (by omega) (Nat.le_refl _)
      obtain ⟨t4, ht4⟩ : ∃ t, t = s / 1000000000 ^ (dl y - 1) := ⟨_, rfl⟩
      rw [← ht4] at hsq ⊢
      repeat (first | refine wp_seq_region ?_ | refine wp_region ?_ | refine r_move (by conv => (lhs; whnf)) ?_ | refine r_assign (by conv => (lhs; whnf)) ?_ | refine r_nil ?_ | refine r_quoI rfl rfl (by omega) (by omega) (by omega) ?_ | refine r_max rfl rfl ?_ | refine r_min rfl rfl ?_)
      obtain ⟨n, hn⟩ : ∃ n, n = max 1 (min 999999999 (t4 / h)) := ⟨_, rfl⟩
      have hni : max (1 : Int) (min 999999999 ((t4 : Int) / (h : Int))) = (n : Int) := by
        rw [hn]
        have : (t4 : Int) / (h : Int) = ((t4 / h : Nat) : Int) := rfl
        rw [this]
        omega
      rw [hni]
      have hn1 : 1 ≤ n := by omega
      have hn2 : n ≤ 999999999 := by omega
      have hnle : y * n ≤ s := guess_le (Nat.pow_pos (by omega)) ht4 hh (by omega) hys
      have hyn : y ≤ y * n := Nat.le_mul_of_pos_right _ (by omega)
      refine r_call (rtimes1_c (hS8.to k9) hy9 (by omega) (by omega)) rfl ?_
      rintro v11 w11 ⟨k11, h11⟩
      skip
      refine r_call (subN_c ((hS8.to k9).to k11) (hvs9.to k11) h11 (by omega) hnle) rfl ?_
      rintro v12 w12 ⟨k12b, h12⟩
      have k9b := (k9.trans k11).trans k12b
      have hg12 := hg8.to k9b
      have hgn : y * (g + n) ≤ s0 := by rw [Nat.mul_add]; omega
      have hgn9 : g + n < 1000000000 := Nat.lt_of_mul_lt_mul_left (a := y) (by omega)
      have hlen : m < (o.set m g).length := by rw [List.length_set]; omega
      repeat (first | refine r_index_own (i := m) rfl rfl (by omega) (by omega) ?_ | refine r_load_digs rfl hg12 hlen ?_ | refine wp_region ?_ | refine r_move (by conv => (lhs; whnf)) ?_ | refine r_assign (by conv => (lhs; whnf)) ?_ | refine r_nil ?_)
      rw [getD_set_self (by omega)]
      repeat (first | refine r_index_own (i := m) rfl rfl (by omega) (by omega) ?_ | refine r_addI rfl rfl (by omega) (by omega) ?_)
      refine r_store_digs (c := g + n) rfl rfl rfl hg12 hlen ?_
      intro w13 k13 hg13
      rw [List.set_set] at hg13
      repeat (first | refine r_nil ?_ | refine q_then ?_ | refine q_block ?_)
      refine ⟨by (repeat (first | refine agree_upd rfl ?_ | exact agree_over | refine agree_sub rfl ?_ | exact agree_refl | refine agree_base rfl ?_ | refine agree_base' rfl ?_)), s - y * n, by omega, g + n, v12, rfl, by rw [Nat.mul_add]; omega, hgn9, hg13, h12.keep (k13.mono fun i hi => hi.2), (k8.trans (.of k9b)).trans k13⟩
    · have hlt : s < y := by have := hc9.1; omega
      repeat (first | refine wp_region ?_ | refine r_move (by conv => (lhs; whnf)) ?_ | refine r_assign (by conv => (lhs; whnf)) ?_ | refine r_nil ?_ | refine q_then ?_ | refine wp_exit ?_ | refine r_subI rfl rfl (by omega) (by omega) ?_)
      refine ⟨by (repeat (first | refine agree_upd rfl ?_ | exact agree_over | refine agree_sub rfl ?_ | exact agree_refl | refine agree_base rfl ?_ | refine agree_base' rfl ?_)), m, by omega, o.set m g, s, vs, congrArg (Value.int .i64) (by omega), rfl, hlt, by rw [List.length_set]; omega, by rw [List.length_set]; omega, hod.set hg9 _, fun j hj => by rw [getD_set_other (by omega)]; exact hz j (by omega), ?_, hg8.to k9, hvs.to k9, ((k4.trans (.of k7)).trans k8).trans (.of k9)⟩
      have hds := drop_step (l := o.set m g) (m := m) (by rw [List.length_set]; omega)
      rw [getD_set_self (by omega), drop_set_lt] at hds
      rw [hdr, hds, Nat.mul_add, Nat.add_mul, Nat.mul_assoc, Nat.mul_comm g]
      omega
  · obtain rfl : k = 0 := by omega
    rw [List.drop_zero, List.drop_zero, nval_dg] at hv
    repeat (first | refine wp_seq_region ?_ | refine wp_region ?_ | refine r_move (by conv => (lhs; whnf)) ?_ | refine wp_exit ?_)
    have hrb : (dg r).length ≤ dl y := dl_mono (Nat.le_of_lt hr)
    refine r_call (small_c2 hS4 hvr (by show (dg r).length ≤ _; omega) hD3 hD1) rfl ?_
    rintro v5 w5 ⟨vq, rfl, k5, h5⟩
    repeat (first | refine wp_seq_region ?_ | refine wp_region ?_ | refine r_move (by conv => (lhs; whnf)) ?_ | refine r_assign (by conv => (lhs; whnf)) ?_ | refine r_nil ?_ | refine r_extract rfl rfl ?_)
    have hg5 := hg4.to k5
    refine r_call (rtrim_c (S := S) (v := .slice (some ⟨q, 0, none⟩) (dg x).length (dg x).length) (l := o) ?_ hod) rfl ?_
    · have h4 := Row.of_blk (S := S) (s := 1) (n := o.length) (cap := o.length) hg5 (hS q (by omega)) (Nat.le_refl _) (by unfold maxLen; omega) (by simp)
      rw [Nat.mul_one, List.take_of_length_le (by simp)] at h4
      rw [← hol]
      exact h4
    · rintro v6 w6 ⟨rfl, h6⟩
      have hdiv : a / b = nval o := by
        have h1 : a * D / (b * D) = a / b := Nat.mul_div_mul_right a b hD1
        rw [← h1, ← hxd, ← hyd, hv, Nat.add_comm, Nat.add_mul_div_right _ _ hy0, Nat.div_eq_of_lt hr, Nat.zero_add]
      have hmod : a % b = r / D := by
        have h1 : a * D % (b * D) = a % b * D := Nat.mul_mod_mul_right D a b
        rw [← hxd, ← hyd, hv, Nat.mul_comm (nval o), Nat.mul_add_mod, Nat.mod_eq_of_lt hr] at h1
        rw [h1, Nat.mul_div_cancel _ hD1]
      repeat (first | refine r_move (by conv => (lhs; whnf)) ?_ | refine r_assign (by conv => (lhs; whnf)) ?_ | refine r_nil ?_ | refine q_then ?_ | refine wp_ret ?_)
      refine end_tmp2 rfl (by conv => (lhs; whnf)) (by conv => (lhs; whnf)) ⟨_, _, rfl, ?_, ?_, ?_⟩
      · exact Keeps.later k12 (k4.trans (.of k5)) fun i hi _ => by omega
      · rw [hdiv]; exact h6
      · rw [hmod]; exact h5.mono fun i _ hi => hi.1

theorem gcdN_c {S : Nat → Prop} {w : World} {va vb : Value} {a b : Nat} (hS : Up S w) (ha : NatV S 3 .i64 w va a) (hb : NatV S 3 .i64 w vb b) (hla : dl a ≤ 15999999999000) (hlb : dl b ≤ 15999999999000) :
    Gives Tryz.prog 100 [va, vb] w fun v' w' => Ext w w' ∧ NatV S 3 .i64 w' v' (Nat.gcd a b) := by
  refine gives_of Tryz.func100 rfl rfl rfl ?_
  repeat (first | refine wp_seq_region ?_ | refine wp_region ?_ | refine r_assign (by conv => (lhs; whnf)) ?_ | refine r_nil ?_ | refine q_then ?_)
  try refine wp_seq_block ?_
  refine wp_for [(0, 1), (5, 17)] (fun k ρ w' => ∃ (x : Nat) (vx vy : Value), ρ 0 = vx ∧ ρ 1 = vy ∧ NatV S 3 .i64 w' vx x ∧ NatV S 3 .i64 w' vy k ∧ Nat.gcd x k = Nat.gcd a b ∧ dl x ≤ 15999999999000 ∧ dl k ≤ 15999999999000 ∧ Ext w w') b
    ⟨a, va, vb, rfl, rfl, ha, hb, rfl, hla, hlb, .refl⟩ ?_
  rintro y u w2 ⟨x, vx, vy, h0, h1, hx, hy, hg, hlx, hly, k2⟩
  refine wp_learn 0 h0 (wp_learn 1 h1 ?_)
  clear h0 h1
  repeat (first | refine wp_seq_region ?_ | refine wp_seq_seq ?_ | refine wp_region ?_ | refine r_move (by conv => (lhs; whnf)) ?_ | refine r_nil ?_ | refine q_then ?_ | refine r_len (by conv => (lhs; whnf)) (by assumption) ?_ | refine r_gtr rfl rfl ?_)
  try refine wp_seq_cond ?_
  refine wp_cond_dec rfl ?_ ?_ <;> intro hc
  · have hy0 : 0 < y := by
      rcases Nat.eq_zero_or_pos y with rfl | h
      · rw [dg_zero] at hc; simp at hc
      · exact h
    repeat (first | refine wp_seq_region ?_ | refine wp_region ?_ | refine r_move (by conv => (lhs; whnf)) ?_ | refine q_then ?_ | refine wp_block_seq ?_ | refine wp_skip ?_)
    refine r_call (divN_c (hS.to k2) hx hy hlx hly hy0) rfl ?_
    rintro v3 w3 ⟨vq, vr, rfl, k3, hq, hr⟩
    have hml := dl_mono (Nat.le_of_lt (Nat.mod_lt x hy0))
    repeat (first | refine wp_region ?_ | refine r_move (by conv => (lhs; whnf)) ?_ | refine r_assign (by conv => (lhs; whnf)) ?_ | refine r_nil ?_ | refine q_then ?_ | refine q_block ?_ | refine r_extract rfl rfl ?_)
    refine ⟨by (repeat (first | refine agree_upd rfl ?_ | exact agree_over | refine agree_sub rfl ?_ | exact agree_refl)), x % y, Nat.mod_lt x hy0, y, vy, vr, rfl, rfl, hy.to k3, hr, ?_, hly, by omega, k2.trans k3⟩
    rw [Nat.gcd_comm, ← Nat.gcd_rec, Nat.gcd_comm, hg]
  · obtain rfl : y = 0 := dl_eq_zero.1 (by unfold dl; omega)
    rw [Nat.gcd_zero_right] at hg
    rw [← hg]
    repeat (first | refine wp_seq_region ?_ | refine wp_region ?_ | refine r_move (by conv => (lhs; whnf)) ?_ | refine r_assign (by conv => (lhs; whnf)) ?_ | refine r_nil ?_ | refine q_then ?_ | refine wp_ret ?_ | refine wp_exit ?_)
    exact end_tmp rfl (by conv => (lhs; whnf)) ⟨k2, hx⟩
end Go.Proofs.YtpmnjjmngogkkaaGreatDoor
