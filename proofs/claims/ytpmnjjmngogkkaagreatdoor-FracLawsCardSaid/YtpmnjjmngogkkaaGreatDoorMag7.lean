import Derived.Test.YtpmnjjmngogkkaaGreatDoorMag6
import Derived.Test.YtpmnjjmngogkkaaGreatDoorFloat
set_option linter.unusedVariables false
namespace Go.Proofs.YtpmnjjmngogkkaaGreatDoor
open Go Go.RowKit

theorem lead_c {S : Nat → Prop} {w : World} {va : Value} {a n : Nat} (ha : NatV S 127 .u32 w va a) (hn : n ≤ 1099511627777) :
    Gives Tryz.prog 179 [va, .int .i64 n] w fun v' w' => (∃ r, v' = .float .f64 r) ∧ Ext w w' := by
  refine gives_of Tryz.func179 rfl rfl rfl ?_
  repeat (first | refine wp_seq_region ?_ | refine wp_seq_seq ?_ | refine wp_region ?_ | refine r_move (by conv => (lhs; whnf)) ?_ | refine r_assign (by conv => (lhs; whnf)) ?_ | refine r_nil ?_ | refine q_then ?_ | refine r_subI rfl rfl (by omega) (by omega) ?_)
  try refine wp_seq_block ?_
  refine wp_for [(5, 6), (9, 24)] (fun k ρ w' => ∃ (i : Int) (r : Nat), k = (i + 4 - n).toNat ∧ ρ 6 = .int .i64 i ∧ ρ 5 = .float .f64 r ∧ (n : Int) - 4 ≤ i ∧ i ≤ n - 1 ∧ Ext w w') 3 ⟨(n : Int) - 1, 0, by omega, rfl, rfl, by omega, by omega, .refl⟩ ?_
  rintro k u w2 ⟨i, r, hk, h6, h5, hi1, hi2, k2⟩
  refine wp_learn 6 h6 (wp_learn 5 h5 ?_)
  clear h6 h5
  repeat (first | refine wp_seq_region ?_ | refine wp_seq_seq ?_ | refine wp_region ?_ | refine r_move (by conv => (lhs; whnf)) ?_ | refine r_nil ?_ | refine q_then ?_ | refine r_geq rfl rfl ?_ | refine r_subI rfl rfl (by omega) (by omega) ?_)
  try refine wp_seq_cond ?_
  refine wp_cond_dec rfl ?_ ?_ <;> intro hc
  · repeat (first | refine wp_seq_region ?_ | refine wp_seq_bseq ?_ | refine wp_region ?_ | refine r_move (by conv => (lhs; whnf)) ?_ | refine wp_block_seq ?_ | refine wp_skip ?_)
    refine r_float rfl rfl (by simp) ?_
    intro r1 w3 k3
    repeat (first | refine wp_seq_region ?_ | refine wp_region ?_ | refine r_move (by conv => (lhs; whnf)) ?_ | refine r_assign (by conv => (lhs; whnf)) ?_ | refine r_nil ?_ | refine q_then ?_ | refine r_geq rfl rfl ?_)
    first | refine wp_seq_cond ?_ | refine wp_thenB ?_ | refine wp_thenBB ?_ | skip
    refine wp_join [(5, 5), (19, 24)] (fun ρ w' => ∃ r2 : Nat, ρ 5 = .float .f64 r2 ∧ Ext w w') rfl ?_ ?_ ?_
    · intro hi0
      obtain ⟨m, rfl⟩ := Int.eq_ofNat_of_zero_le hi0
      repeat (first | refine wp_region ?_ | refine r_move (by conv => (lhs; whnf)) ?_)
      refine r_call (at_c m (ha.to (k2.trans k3))) rfl ?_
      rintro v4 w4 ⟨rfl, k4⟩
      repeat (first | refine r_tofloat rfl ?_)
      intro r2
      refine r_float rfl rfl (by simp) ?_
      intro r3 w5 k5
      repeat (first | refine r_assign (by conv => (lhs; whnf)) ?_ | refine r_nil ?_ | refine q_then ?_)
      exact ⟨by (repeat (first | refine agree_upd rfl ?_ | exact agree_over | refine agree_sub rfl ?_ | exact agree_refl)), r3, rfl, ((k2.trans k3).trans k4).trans k5⟩
    · intro hi0
      repeat (first | refine q_then ?_ | refine wp_skip ?_)
      exact ⟨by (repeat (first | refine agree_upd rfl ?_ | exact agree_over | refine agree_sub rfl ?_ | exact agree_refl)), r1, rfl, k2.trans k3⟩
    · rintro u4 w4 ⟨r2, h5, k4⟩
      refine wp_learn 5 h5 ?_
      clear h5
      repeat (first | refine wp_region ?_ | refine r_move (by conv => (lhs; whnf)) ?_ | refine r_assign (by conv => (lhs; whnf)) ?_ | refine r_nil ?_ | refine q_then ?_ | refine r_subI rfl rfl (by omega) (by omega) ?_)
      exact ⟨by (repeat (first | refine agree_upd rfl ?_ | exact agree_over | refine agree_sub rfl ?_ | exact agree_refl)), k - 1, by omega, i - 1, r2, by omega, rfl, rfl, by omega, by omega, k4⟩
  · repeat (first | refine wp_seq_region ?_ | refine wp_region ?_ | refine r_move (by conv => (lhs; whnf)) ?_ | refine r_assign (by conv => (lhs; whnf)) ?_ | refine r_nil ?_ | refine q_then ?_ | refine wp_ret ?_ | refine wp_exit ?_)
    exact end_tmp rfl (by conv => (lhs; whnf)) ⟨⟨r, rfl⟩, k2⟩

theorem dl_lt_mul {r b d : Nat} (h : r < b) (hd : d < 1000000000) : dl (d + 1000000000 * r) ≤ dl b + 1 := by
  refine dl_le ?_
  rw [Nat.pow_succ]
  have := lt_pow_dl b
  omega
theorem dl_mul32 {b g : Nat} (hg : g ≤ 4294967295) : dl (b * g) ≤ dl b + 2 := by
  refine dl_le ?_
  rw [Nat.pow_add]
  have := lt_pow_dl b
  exact Nat.mul_lt_mul_of_lt_of_le this (by omega) (by omega)
theorem drop_step {l : List Nat} {m : Nat} (h : m < l.length) : nval (l.drop m) = l.getD m 0 + 1000000000 * nval (l.drop (m + 1)) := by
  rw [List.drop_eq_getElem_cons h, nval, List.getD_eq_getElem?_getD, List.getElem?_eq_getElem h]
  rfl
theorem drop_set_lt {l : List Nat} {m d : Nat} : (l.set m d).drop (m + 1) = l.drop (m + 1) := by
  rw [List.drop_set_of_lt (by omega)]

set_option maxHeartbeats 2000000 in
theorem over_c {S : Nat → Prop} {w : World} {va vb : Value} {a b : Nat} (hS : Up S w) (ha : NatV S 127 .u32 w va a) (hb : NatV S 127 .u32 w vb b) (hla : dl a ≤ 1099511627000) (hlb : dl b ≤ 1099511627000) (hb0 : 0 < b) :
    Gives Tryz.prog 141 [va, vb] w fun v' w' => ∃ vq vr, v' = .tuple #[vq, vr] ∧ Ext w w' ∧ NatV S 127 .u32 w' vq (a / b) ∧ NatV S 127 .u32 w' vr (a % b) := by
  have hla' : (dg a).length ≤ 1099511627000 := hla
  have hlb' : (dg b).length ≤ 1099511627000 := hlb
  refine gives_of Tryz.func141 rfl rfl rfl ?_
  repeat (first | refine wp_seq_region ?_ | refine wp_seq_seq ?_ | refine wp_region ?_ | refine r_move (by conv => (lhs; whnf)) ?_ | refine r_assign (by conv => (lhs; whnf)) ?_ | refine r_nil ?_)
  refine r_call (compare_c ha hb) rfl ?_
  rintro v1 w1 ⟨k1, c, rfl, hc⟩
  repeat (first | refine r_nil ?_ | refine q_then ?_ | refine r_lss rfl rfl ?_)
  try refine wp_seq_cond ?_
  refine wp_cond_dec rfl ?_ ?_ <;> intro hcl
  · repeat (first | refine wp_seq_region ?_ | refine wp_region ?_ | refine r_move (by conv => (lhs; whnf)) ?_ | refine r_assign (by conv => (lhs; whnf)) ?_ | refine r_nil ?_ | refine q_then ?_ | refine wp_ret ?_ | refine q_then_ret ?_)
    have hab : a < b := hc.1.1 hcl
    refine end_tmp2 rfl (by conv => (lhs; whnf)) (by conv => (lhs; whnf)) ⟨_, _, rfl, k1, ?_, ?_⟩
    · rw [Nat.div_eq_of_lt hab]; exact Row.nil
    · rw [Nat.mod_eq_of_lt hab]; exact ha.to k1
  · repeat (first | refine wp_seq_region ?_ | refine wp_region ?_ | refine r_move (by conv => (lhs; whnf)) ?_ | refine wp_skip ?_ | refine r_len (by conv => (lhs; whnf)) (by assumption) ?_)
    refine r_make (l := (dg a).length) (c := (dg a).length) rfl rfl rfl rfl (Nat.le_refl _) (by omega) (by unfold maxLen; omega) ?_
    intro w2 q k2 hg hgs
    have hg : Blk w2 q 127 ((List.replicate (dg a).length 0).map fun d : Nat => .int .u32 d) := by
      simpa [toList_madeCells_one, Value.cells, List.map_replicate] using hg
    have k12 := k1.trans k2
    have hq := hg.lt
    have hs1 := k1.size
    have hs12 := k12.size
    have hS2 : Up (fun k => S k ∧ k ≠ q) w2 := fun i hi => ⟨hS i (by omega), by omega⟩
    have ha2 := (ha.mono (S' := fun k => S k ∧ k ≠ q) fun i hi hs => ⟨hs, by omega⟩).to k12
    have hb2 := (hb.mono (S' := fun k => S k ∧ k ≠ q) fun i hi hs => ⟨hs, by omega⟩).to k12
    repeat (first | refine wp_seq_region ?_ | refine wp_seq_seq ?_ | refine wp_region ?_ | refine r_move (by conv => (lhs; whnf)) ?_ | refine r_assign (by conv => (lhs; whnf)) ?_ | refine r_nil ?_ | refine q_then ?_ | refine r_len (by conv => (lhs; whnf)) (by assumption) ?_ | refine r_subI rfl rfl (by omega) (by omega) ?_)
    try refine wp_seq_block ?_
    refine wp_for [(7, 10), (22, 77)] (fun k ρ w' => ∃ (o : List Nat) (r : Nat) (vr : Value), ρ 8 = .int .i64 ((k : Int) - 1) ∧ ρ 7 = vr ∧ r < b ∧ k ≤ o.length ∧ o.length = (dg a).length ∧ Digs o ∧ (∀ j, j < k → o.getD j 0 = 0) ∧
        nval ((dg a).drop k) = nval (o.drop k) * b + r ∧ Blk w' q 127 (o.map fun d : Nat => .int .u32 d) ∧ NatV (fun k => S k ∧ k ≠ q) 127 .u32 w' vr r ∧ Keeps (fun k => k ≠ q) w2 w') (dg a).length
      ⟨List.replicate (dg a).length 0, 0, _, rfl, rfl, hb0, by simp, by simp, fun x hx => by rw [List.eq_of_mem_replicate hx]; omega, fun j _ => by simp [List.getD_eq_getElem?_getD, List.getElem?_replicate]; split <;> rfl, by simp [nval], hg, Row.nil, .refl⟩ ?_
    rintro k u w3 ⟨o, r, vr, h8, h7, hr, hko, hol, hod, hz, hv, hg3, hvr, k3⟩
    refine wp_learn 8 h8 (wp_learn 7 h7 ?_)
    clear h8 h7 hg
    have hb3 : NatV (fun k => S k ∧ k ≠ q) 127 .u32 w3 vb b := hb2.keep (k3.mono fun i hi => hi.2)
    have ha3 : NatV (fun k => S k ∧ k ≠ q) 127 .u32 w3 va a := ha2.keep (k3.mono fun i hi => hi.2)
    have hS3 : Up (fun k => S k ∧ k ≠ q) w3 := fun i hi => hS2 i (by have := k3.size; omega)
    repeat (first | refine wp_seq_region ?_ | refine wp_seq_seq ?_ | refine wp_region ?_ | refine r_move (by conv => (lhs; whnf)) ?_ | refine r_nil ?_ | refine q_then ?_ | refine r_geq rfl rfl ?_)
    try refine wp_seq_cond ?_
    refine wp_cond_dec rfl ?_ ?_ <;> intro hk
    · obtain ⟨m, rfl⟩ : ∃ m, k = m + 1 := ⟨k - 1, by omega⟩
      repeat (first | refine r_index1 (i := m) (by conv => (lhs; whnf)) rfl (by omega) ha3 (by omega) ?_ | refine r_load_dig rfl ha3 (by omega) ?_ | refine wp_seq_region ?_ | refine wp_seq_bseq ?_ | refine wp_region ?_ | refine r_move (by conv => (lhs; whnf)) ?_ | refine wp_block_seq ?_ | refine wp_skip ?_)
      have hda := dg_lt a m
      have hdr := drop_step (show m < (dg a).length by omega)
      rw [hv] at hdr
      obtain ⟨d, hd⟩ : ∃ d, d = (dg a).getD m 0 := ⟨_, rfl⟩
      rw [← hd] at hda hdr ⊢
      have hdo := drop_step (show m < o.length by omega)
      have hdl := dl_lt_mul hr hda
      have hrb := dl_mono (Nat.le_of_lt hr)
      refine r_call (shifted_c hS3 hvr (by omega) hda) rfl ?_
      rintro v4 w4 ⟨k4, h4⟩
      repeat (first | refine wp_seq_region ?_ | refine wp_seq_seq ?_ | refine wp_region ?_ | refine r_move (by conv => (lhs; whnf)) ?_ | refine r_assign (by conv => (lhs; whnf)) ?_ | refine r_nil ?_)
      refine r_call (compare_c h4 (hb3.to k4)) rfl ?_
      rintro v5 w5 ⟨k5, c5, rfl, hc5⟩
      replace h4 := h4.to k5
      replace k4 := k4.trans k5
      repeat (first | refine r_nil ?_ | refine q_then ?_ | refine r_lss rfl rfl ?_)
      try refine wp_seq_cond ?_
      refine wp_cond_dec rfl ?_ ?_ <;> intro hlt
      · repeat (first | refine wp_region ?_ | refine r_move (by conv => (lhs; whnf)) ?_ | refine r_assign (by conv => (lhs; whnf)) ?_ | refine r_nil ?_ | refine q_then ?_ | refine wp_exit ?_ | refine r_subI rfl rfl (by omega) (by omega) ?_)
        refine ⟨by (repeat (first | refine agree_upd rfl ?_ | exact agree_over | refine agree_sub rfl ?_ | exact agree_refl)), m, by omega, o, d + 1000000000 * r, v4, congrArg (Value.int .i64) (by omega), rfl, hc5.1.1 hlt, by omega, hol, hod, fun j hj => hz j (by omega), ?_, hg3.to k4, h4, k3.trans (.of k4)⟩
        rw [hdr, hdo, hz m (by omega), Nat.zero_add, Nat.mul_add, Nat.mul_assoc]
        omega
      · have hge : b ≤ d + 1000000000 * r := by have := hc5.1; omega
        have hlt9 : d + 1000000000 * r < 1000000000 * b := by omega
        obtain ⟨y, hy⟩ : ∃ y, y = d + 1000000000 * r := ⟨_, rfl⟩
        rw [← hy] at hge hlt9 h4 hdl
        repeat (first | refine wp_seq_region ?_ | refine wp_region ?_ | refine r_move (by conv => (lhs; whnf)) ?_ | refine wp_skip ?_ | refine r_len (by conv => (lhs; whnf)) (by assumption) ?_ | refine r_addI rfl rfl (by omega) (by omega) ?_)
        refine r_call (lead_c (n := (dg b).length + 1) h4 (by omega)) (args2 rfl (congrArg (Value.int .i64) (by omega))) ?_
        rintro v6 w6 ⟨⟨f6, rfl⟩, k6⟩
        repeat (first | refine r_move (by conv => (lhs; whnf)) ?_ | refine r_len (by conv => (lhs; whnf)) (by assumption) ?_ | refine r_addI rfl rfl (by omega) (by omega) ?_)
        refine r_call (lead_c (n := (dg b).length + 1) (hb3.to (k4.trans k6)) (by omega)) (args2 rfl (congrArg (Value.int .i64) (by omega))) ?_
        rintro v7 w7 ⟨⟨f7, rfl⟩, k7⟩
        skip
        refine r_float rfl rfl (by simp) ?_
        intro f8 w8 k8
        skip
        refine r_fmin rfl rfl ?_
        intro f9 w9 k9
        skip
        refine r_fmax rfl rfl ?_
        intro f10 w10 k10
        skip
        refine r_tou32 rfl ?_
        intro g w11 hg11 k11
        repeat (first | refine wp_seq_region ?_ | refine wp_region ?_ | refine r_move (by conv => (lhs; whnf)) ?_ | refine r_assign (by conv => (lhs; whnf)) ?_ | refine r_nil ?_)
        have k4b := (((((k4.trans k6).trans k7).trans k8).trans k9).trans k10).trans k11
        replace h4 := h4.to (((((k6.trans k7).trans k8).trans k9).trans k10).trans k11)
        refine r_call (small_c (c := g) (hS3.to k4b) (hb3.to k4b) (by omega) hg11) rfl ?_
        rintro v12 w12 ⟨k12b, h12⟩
        replace h4 := h4.to k12b
        replace k4b := k4b.trans k12b
        repeat (first | refine r_assign (by conv => (lhs; whnf)) ?_ | refine r_nil ?_ | refine q_then ?_)
        try refine wp_seq_block ?_
        refine wp_for [(9, 10), (53, 61)] (fun k ρ w' => ∃ vp : Value, ρ 9 = .int .u32 k ∧ ρ 10 = vp ∧ k ≤ 4294967295 ∧ NatV (fun k => S k ∧ k ≠ q) 127 .u32 w' vp (b * k) ∧ Ext w12 w') g
          ⟨v12, rfl, rfl, hg11, h12, .refl⟩ ?_
        rintro g2 u2 w13 ⟨vp, h9, h10, hg2, hp, k13⟩
        refine wp_learn 9 h9 (wp_learn 10 h10 ?_)
        clear h9 h10 h12
        have h4b := h4.to k13
        repeat (first | refine wp_seq_region ?_ | refine wp_seq_seq ?_ | refine wp_region ?_ | refine r_move (by conv => (lhs; whnf)) ?_)
        refine r_call (compare_c hp h4b) rfl ?_
        rintro v14 w14 ⟨k14, c14, rfl, hc14⟩
        repeat (first | refine r_nil ?_ | refine q_then ?_ | refine r_gtr rfl rfl ?_)
        try refine wp_seq_cond ?_
        refine wp_cond_dec rfl ?_ ?_ <;> intro hgt
        · have hgt2 := hc14.2.1 hgt
          obtain ⟨g3, rfl⟩ : ∃ g3, g2 = g3 + 1 := by
            have h0 : g2 ≠ 0 := by
              rintro rfl
              omega
            exact ⟨g2 - 1, by omega⟩
          repeat (first | refine r_subW rfl rfl (by omega) (by omega) ?_ | refine wp_seq_region ?_ | refine wp_region ?_ | refine r_move (by conv => (lhs; whnf)) ?_ | refine r_assign (by conv => (lhs; whnf)) ?_ | refine r_nil ?_ | refine q_then ?_ | refine wp_block_seq ?_ | refine wp_skip ?_)
          have hbl : b ≤ b * (g3 + 1) := Nat.le_mul_of_pos_right _ (by omega)
          have hdm := dl_mul32 (b := b) hg2
          refine r_call (less_c ((hS3.to k4b).to (k13.trans k14)) (hp.to k14) (hb3.to (k4b.trans (k13.trans k14))) (by omega) hbl) rfl ?_
          rintro v15 w15 ⟨k15, h15⟩
          repeat (first | refine r_assign (by conv => (lhs; whnf)) ?_ | refine r_nil ?_ | refine q_then ?_ | refine q_block ?_)
          refine ⟨by (repeat (first | refine agree_upd rfl ?_ | exact agree_over | refine agree_sub rfl ?_ | exact agree_refl)), g3, by omega, v15, congrArg (Value.int .u32) (by omega), rfl, by omega, ?_, (k13.trans k14).trans k15⟩
          have e : b * (g3 + 1) - b = b * g3 := by rw [Nat.mul_succ]; omega
          rw [← e]; exact h15
        · have hle : b * g2 ≤ y := by have := hc14.2; omega
          repeat (first | refine wp_seq_region ?_ | refine wp_region ?_ | refine r_move (by conv => (lhs; whnf)) ?_ | refine wp_exit ?_)
          refine r_call (less_c ((hS3.to k4b).to (k13.trans k14)) (h4b.to k14) (hp.to k14) (by omega) hle) rfl ?_
          rintro v15 w15 ⟨k15, h15⟩
          have k4c := ((k4b.trans k13).trans k14).trans k15
          repeat (first | refine r_assign (by conv => (lhs; whnf)) ?_ | refine r_nil ?_ | refine q_then ?_)
          try refine wp_seq_block ?_
          refine wp_for [(7, 7), (9, 9), (65, 73)] (fun k ρ w' => ∃ (g : Nat) (vp : Value), ρ 9 = .int .u32 g ∧ ρ 7 = vp ∧ y = b * g + k ∧ NatV (fun k => S k ∧ k ≠ q) 127 .u32 w' vp k ∧ Ext w15 w') (y - b * g2)
            ⟨g2, v15, rfl, rfl, by omega, h15, .refl⟩ ?_
          rintro r3 u3 w16 ⟨g4, vp4, h9, h7, hyr, hr3, k16⟩
          refine wp_learn 9 h9 (wp_learn 7 h7 ?_)
          clear h9 h7 h15
          have k4d := k4c.trans k16
          have hr3d : dl r3 ≤ dl b + 1 := Nat.le_trans (dl_mono (by omega)) hdl
          repeat (first | refine wp_seq_region ?_ | refine wp_seq_seq ?_ | refine wp_region ?_ | refine r_move (by conv => (lhs; whnf)) ?_)
          refine r_call (compare_c hr3 (hb3.to k4d)) rfl ?_
          rintro v17 w17 ⟨k17, c17, rfl, hc17⟩
          have hg9 : b * g4 < b * 1000000000 := by omega
          replace hg9 := Nat.lt_of_mul_lt_mul_left hg9
          repeat (first | refine r_nil ?_ | refine q_then ?_ | refine r_geq rfl rfl ?_)
          try refine wp_seq_cond ?_
          refine wp_cond_dec rfl ?_ ?_ <;> intro hge2
          · have hge3 : b ≤ r3 := by have := hc17.1; omega
            repeat (first | refine r_addW rfl rfl (by omega) (by omega) ?_ | refine wp_seq_region ?_ | refine wp_region ?_ | refine r_move (by conv => (lhs; whnf)) ?_ | refine r_assign (by conv => (lhs; whnf)) ?_ | refine r_nil ?_ | refine q_then ?_ | refine wp_block_seq ?_ | refine wp_skip ?_)
            refine r_call (less_c ((hS3.to k4d).to k17) (hr3.to k17) (hb3.to (k4d.trans k17)) (by omega) hge3) rfl ?_
            rintro v18 w18 ⟨k18, h18⟩
            repeat (first | refine r_assign (by conv => (lhs; whnf)) ?_ | refine r_nil ?_ | refine q_then ?_ | refine q_block ?_)
            refine ⟨by (repeat (first | refine agree_upd rfl ?_ | exact agree_over | refine agree_sub rfl ?_ | exact agree_refl)), r3 - b, by omega, g4 + 1, v18, rfl, rfl, by rw [Nat.mul_succ]; omega, h18, (k16.trans k17).trans k18⟩
          · have hlt3 : r3 < b := by have := hc17.1; omega
            replace k4d := k4d.trans k17
            repeat (first | refine r_index_own (i := m) rfl rfl (by omega) (by omega) ?_ | refine wp_region ?_ | refine r_move (by conv => (lhs; whnf)) ?_ | refine wp_exit ?_)
            refine r_store_digs (c := g4) rfl rfl rfl (hg3.to k4d) (by omega) ?_
            intro w19 k19 hg19
            repeat (first | refine wp_region ?_ | refine r_move (by conv => (lhs; whnf)) ?_ | refine r_assign (by conv => (lhs; whnf)) ?_ | refine r_nil ?_ | refine q_then ?_ | refine r_subI rfl rfl (by omega) (by omega) ?_)
            refine ⟨by (repeat (first | refine agree_upd rfl ?_ | exact agree_over | refine agree_sub rfl ?_ | exact agree_refl)), m, by omega, o.set m g4, r3, vp4, congrArg (Value.int .i64) (by omega), rfl, hlt3, by rw [List.length_set]; omega, by rw [List.length_set]; omega, hod.set hg9 _, fun j hj => by rw [getD_set_other (by omega)]; exact hz j (by omega), ?_, hg19, (hr3.to k17).keep (k19.mono fun i hi => hi.2), (k3.trans (.of k4d)).trans k19⟩
            have hds := drop_step (l := o.set m g4) (m := m) (by rw [List.length_set]; omega)
            rw [getD_set_self (by omega), drop_set_lt] at hds
            rw [hdr, hds, Nat.mul_add, Nat.add_mul, Nat.mul_assoc, Nat.mul_comm g4]
            omega
    · obtain rfl : k = 0 := by omega
      rw [List.drop_zero, List.drop_zero, nval_dg] at hv
      repeat (first | refine wp_seq_region ?_ | refine wp_region ?_ | refine r_move (by conv => (lhs; whnf)) ?_ | refine wp_exit ?_)
      refine r_call (trim_c (S := S) (v := .slice (some ⟨q, 0, none⟩) (dg a).length (dg a).length) (l := o) ?_ hod) rfl ?_
      · have h4 := Row.of_blk (S := S) (s := 1) (n := o.length) (cap := o.length) hg3 (hS q (by omega)) (Nat.le_refl _) (by unfold maxLen; omega) (by simp)
        rw [Nat.mul_one, List.take_of_length_le (by simp)] at h4
        rw [← hol]
        exact h4
      · rintro v4 w4 ⟨rfl, h4⟩
        have hdiv : a / b = nval o := by
          rw [hv, Nat.add_comm, Nat.add_mul_div_right _ _ hb0, Nat.div_eq_of_lt hr, Nat.zero_add]
        have hmod : a % b = r := by
          rw [hv, Nat.mul_comm, Nat.mul_add_mod, Nat.mod_eq_of_lt hr]
        repeat (first | refine r_move (by conv => (lhs; whnf)) ?_ | refine r_assign (by conv => (lhs; whnf)) ?_ | refine r_nil ?_ | refine q_then ?_ | refine wp_ret ?_)
        refine end_tmp2 rfl (by conv => (lhs; whnf)) (by conv => (lhs; whnf)) ⟨_, _, rfl, ?_, ?_, ?_⟩
        · exact Keeps.later k12 k3 fun i hi _ => by omega
        · rw [hdiv]; exact h4
        · rw [hmod]; exact hvr.mono fun i _ hi => hi.1
end Go.Proofs.YtpmnjjmngogkkaaGreatDoor
