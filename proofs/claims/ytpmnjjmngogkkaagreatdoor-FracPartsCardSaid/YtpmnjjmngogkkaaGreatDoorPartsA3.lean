/- LParts PBase PParts -/
import Derived.Test.YtpmnjjmngogkkaaGreatDoorPartsA1
import Derived.Test.YtpmnjjmngogkkaaGreatDoorPartsA2
import Derived.Test.YtpmnjjmngogkkaaGreatDoorStr
import Derived.Test.YtpmnjjmngogkkaaGreatDoorCards
import Derived.Test.YtpmnjjmngogkkaaGreatDoorTie
import Derived.ProofKit
import Derived.LaidMore
import Derived.OpenShut
import Derived.Stop.Joined
import Derived.SevenTiedAt
import Derived.Lay
section
/- The statement FracParts: whatever two strings come in, it returns true. -/
set_option linter.unusedVariables false
set_option linter.unusedSimpArgs false
namespace Go.Proofs.YtpmnjjmngogkkaaGreatDoor
open Go Go.RowKit

set_option maxRecDepth 100000 in
set_option maxHeartbeats 8000000 in
theorem fracParts_c {w : World} {s t : List UInt8} (ht : Tab w) (hs : s.length ≤ 140737488351232) (hu : t.length ≤ 140737488351232) :
    Gives Tryz.prog 5 [strV s, strV t] w fun v' w' => v' = .bool true ∧ Ext w w' := by
  refine gives_of Tryz.func5 rfl rfl rfl ?_
  have k : Ext w w := .refl
  repeat (first | refine wp_seq_region ?_ | refine wp_region ?_ | refine r_move (by conv => (lhs; whnf)) ?_ | refine r_assign (by conv => (lhs; whnf)) ?_ | refine r_nil ?_)
  refine r_call (ratio_l (S := All) (s := s) (most := 700) Up.all hs (by decide) (by decide)) rfl ?_
  rintro v_1 w_1 ⟨va, vp, a, rfl, k_1, la, ⟨ma, ba, rfl, hma, hba⟩, ⟨mp, bp, rfl, hmp, hbp⟩⟩
  replace k := k.trans k_1
  clear k_1
  repeat (first | refine r_move (by conv => (lhs; whnf)) ?_ | refine r_extract rfl rfl ?_)
  refine r_new2 rfl (zs := [.bool false, .slice none 0 0, .slice none 0 0]) (zs2 := [.bool false, .slice none 0 0, .bool false, .slice none 0 0]) (us := [.bool (tst (a.num < 0)), ma, ba]) (us2 := [.bool (tst (a.num < 0)), mp, .bool (tst ((a.den : Int) < 0)), bp]) rfl rfl (fun _ _ => rfl) (fun _ _ => rfl) rfl rfl rfl rfl (ones3 rfl hma.one hba.one) (ones4 rfl hmp.one rfl hbp.one) ?_
  intro w_2 g5 g6 k_2 hs_2 hs2_2 ne_g5_g6 hg5 hg6
  have hsg5 : w.heap.size ≤ g5 := Nat.le_trans k.size hs_2
  have hsg6 : w.heap.size ≤ g6 := Nat.le_trans k.size hs2_2
  clear hs_2 hs2_2
  replace hma := hma.to k_2
  replace hba := hba.to k_2
  replace hmp := hmp.to k_2
  replace hbp := hbp.to k_2
  replace k := k.trans k_2
  clear k_2
  repeat (first | refine wp_seq_region ?_ | refine wp_region ?_ | refine r_move (by conv => (lhs; whnf)) ?_ | refine r_nil ?_)
  refine r_call (ratio_l (S := All) (s := t) (most := 700) Up.all hu (by decide) (by decide)) rfl ?_
  rintro v_3 w_3 ⟨vb, vq, b, rfl, k_3, lb, ⟨mb, bb, rfl, hmb, hbb⟩, ⟨mq, bq, rfl, hmq, hbq⟩⟩
  replace hma := hma.to k_3
  replace hba := hba.to k_3
  replace hmp := hmp.to k_3
  replace hbp := hbp.to k_3
  replace hg5 := hg5.to k_3
  replace hg6 := hg6.to k_3
  replace k := k.trans k_3
  clear k_3
  repeat (first | refine r_move (by conv => (lhs; whnf)) ?_ | refine r_extract rfl rfl ?_)
  refine r_new2 rfl (zs := [.bool false, .slice none 0 0, .slice none 0 0]) (zs2 := [.bool false, .slice none 0 0, .bool false, .slice none 0 0]) (us := [.bool (tst (b.num < 0)), mb, bb]) (us2 := [.bool (tst (b.num < 0)), mq, .bool (tst ((b.den : Int) < 0)), bq]) rfl rfl (fun _ _ => rfl) (fun _ _ => rfl) rfl rfl rfl rfl (ones3 rfl hmb.one hbb.one) (ones4 rfl hmq.one rfl hbq.one) ?_
  intro w_4 g7 g8 k_4 hs_4 hs2_4 ne_g7_g8 hg7 hg8
  have hsg7 : w.heap.size ≤ g7 := Nat.le_trans k.size hs_4
  have hsg8 : w.heap.size ≤ g8 := Nat.le_trans k.size hs2_4
  clear hs_4 hs2_4
  replace hma := hma.to k_4
  replace hba := hba.to k_4
  replace hmp := hmp.to k_4
  replace hbp := hbp.to k_4
  replace hg5 := hg5.to k_4
  replace hg6 := hg6.to k_4
  replace hmb := hmb.to k_4
  replace hbb := hbb.to k_4
  replace hmq := hmq.to k_4
  replace hbq := hbq.to k_4
  replace k := k.trans k_4
  clear k_4
  have ra : rl a 78 := rl_len (by omega)
  have rb : rl b 78 := rl_len (by omega)
  have ra4 : rl a 400000000000 := rl_mono ra (by decide)
  have rb4 : rl b 400000000000 := rl_mono rb (by decide)
  have rs : rl (a + b) 400000000000 := rl_mono (rl_add ra rb) (by decide)
  have rd : rl (a - b) 400000000000 := rl_mono (rl_sub ra rb) (by decide)
  have rm : rl (a * b) 400000000000 := rl_mono (rl_mul ra rb) (by decide)
  repeat (first | refine r_load_all rfl hg5 rfl ?_ | refine r_load_all rfl hg7 rfl ?_ | refine wp_seq_region ?_ | refine wp_region ?_ | refine r_nil ?_)
  refine r_call (radd_c (S := All) (a := a) (b := b) Up.all ⟨ma, ba, rfl, hma, hba⟩ ⟨mb, bb, rfl, hmb, hbb⟩ ra4 rb4) rfl ?_
  rintro v_5 w_5 ⟨k_5, htr⟩
  replace hma := hma.to k_5
  replace hba := hba.to k_5
  replace hmp := hmp.to k_5
  replace hbp := hbp.to k_5
  replace hg5 := hg5.to k_5
  replace hg6 := hg6.to k_5
  replace hmb := hmb.to k_5
  replace hbb := hbb.to k_5
  replace hmq := hmq.to k_5
  replace hbq := hbq.to k_5
  replace hg7 := hg7.to k_5
  replace hg8 := hg8.to k_5
  replace k := k.trans k_5
  clear k_5
  obtain ⟨e, xs, mx, bx, rfl, dx, hmx, hbx⟩ := htr.done
  clear htr
  repeat (first | refine r_move (by conv => (lhs; whnf)) ?_ | refine r_extract rfl rfl ?_)
  refine r_new (zs := [.bool false, .slice none 0 0, .slice none 0 0]) (us := [.bool (tst (xs.num < 0)), mx, bx]) rfl (fun _ => rfl) rfl rfl (ones3 rfl hmx.one hbx.one) ?_
  intro w_6 g9 k_6 hs_6 hg9
  have hsg9 : w.heap.size ≤ g9 := Nat.le_trans k.size hs_6
  clear hs_6
  replace hma := hma.to k_6
  replace hba := hba.to k_6
  replace hmp := hmp.to k_6
  replace hbp := hbp.to k_6
  replace hg5 := hg5.to k_6
  replace hg6 := hg6.to k_6
  replace hmb := hmb.to k_6
  replace hbb := hbb.to k_6
  replace hmq := hmq.to k_6
  replace hbq := hbq.to k_6
  replace hg7 := hg7.to k_6
  replace hg8 := hg8.to k_6
  replace hmx := hmx.to k_6
  replace hbx := hbx.to k_6
  replace k := k.trans k_6
  clear k_6
  repeat (first | refine r_load_all rfl hg5 rfl ?_ | refine r_load_all rfl hg7 rfl ?_ | refine wp_seq_region ?_ | refine wp_region ?_ | refine r_assign (by conv => (lhs; whnf)) ?_ | refine r_nil ?_)
  refine r_call (rsub_c (S := All) (a := a) (b := b) Up.all ⟨ma, ba, rfl, hma, hba⟩ ⟨mb, bb, rfl, hmb, hbb⟩ ra4 rb4) rfl ?_
  rintro v_7 w_7 ⟨k_7, htr⟩
  replace hma := hma.to k_7
  replace hba := hba.to k_7
  replace hmp := hmp.to k_7
  replace hbp := hbp.to k_7
  replace hg5 := hg5.to k_7
  replace hg6 := hg6.to k_7
  replace hmb := hmb.to k_7
  replace hbb := hbb.to k_7
  replace hmq := hmq.to k_7
  replace hbq := hbq.to k_7
  replace hg7 := hg7.to k_7
  replace hg8 := hg8.to k_7
  replace hmx := hmx.to k_7
  replace hbx := hbx.to k_7
  replace hg9 := hg9.to k_7
  replace k := k.trans k_7
  clear k_7
  obtain ⟨f, y, my, by', rfl, dy, hmy, hby⟩ := htr.done
  clear htr
  repeat (first | refine r_move (by conv => (lhs; whnf)) ?_ | refine r_extract rfl rfl ?_)
  refine r_new (zs := [.bool false, .slice none 0 0, .slice none 0 0]) (us := [.bool (tst (y.num < 0)), my, by']) rfl (fun _ => rfl) rfl rfl (ones3 rfl hmy.one hby.one) ?_
  intro w_8 g11 k_8 hs_8 hg11
  have hsg11 : w.heap.size ≤ g11 := Nat.le_trans k.size hs_8
  clear hs_8
  replace hma := hma.to k_8
  replace hba := hba.to k_8
  replace hmp := hmp.to k_8
  replace hbp := hbp.to k_8
  replace hg5 := hg5.to k_8
  replace hg6 := hg6.to k_8
  replace hmb := hmb.to k_8
  replace hbb := hbb.to k_8
  replace hmq := hmq.to k_8
  replace hbq := hbq.to k_8
  replace hg7 := hg7.to k_8
  replace hg8 := hg8.to k_8
  replace hmx := hmx.to k_8
  replace hbx := hbx.to k_8
  replace hg9 := hg9.to k_8
  replace hmy := hmy.to k_8
  replace hby := hby.to k_8
  replace k := k.trans k_8
  clear k_8
  repeat (first | refine r_load_all rfl hg5 rfl ?_ | refine r_load_all rfl hg7 rfl ?_ | refine wp_seq_region ?_ | refine wp_region ?_ | refine r_assign (by conv => (lhs; whnf)) ?_ | refine r_nil ?_)
  refine r_call (rmul_c (S := All) (a := a) (b := b) Up.all ⟨ma, ba, rfl, hma, hba⟩ ⟨mb, bb, rfl, hmb, hbb⟩ ra4 rb4) rfl ?_
  rintro v_9 w_9 ⟨k_9, htr⟩
  replace hma := hma.to k_9
  replace hba := hba.to k_9
  replace hmp := hmp.to k_9
  replace hbp := hbp.to k_9
  replace hg5 := hg5.to k_9
  replace hg6 := hg6.to k_9
  replace hmb := hmb.to k_9
  replace hbb := hbb.to k_9
  replace hmq := hmq.to k_9
  replace hbq := hbq.to k_9
  replace hg7 := hg7.to k_9
  replace hg8 := hg8.to k_9
  replace hmx := hmx.to k_9
  replace hbx := hbx.to k_9
  replace hg9 := hg9.to k_9
  replace hmy := hmy.to k_9
  replace hby := hby.to k_9
  replace hg11 := hg11.to k_9
  replace k := k.trans k_9
  clear k_9
  obtain ⟨g, z, mz, bz, rfl, dz, hmz, hbz⟩ := htr.done
  clear htr
  repeat (first | refine r_move (by conv => (lhs; whnf)) ?_ | refine r_extract rfl rfl ?_)
  refine r_new (zs := [.bool false, .slice none 0 0, .slice none 0 0]) (us := [.bool (tst (z.num < 0)), mz, bz]) rfl (fun _ => rfl) rfl rfl (ones3 rfl hmz.one hbz.one) ?_
  intro w_10 g13 k_10 hs_10 hg13
  have hsg13 : w.heap.size ≤ g13 := Nat.le_trans k.size hs_10
  clear hs_10
  replace hma := hma.to k_10
  replace hba := hba.to k_10
  replace hmp := hmp.to k_10
  replace hbp := hbp.to k_10
  replace hg5 := hg5.to k_10
  replace hg6 := hg6.to k_10
  replace hmb := hmb.to k_10
  replace hbb := hbb.to k_10
  replace hmq := hmq.to k_10
  replace hbq := hbq.to k_10
  replace hg7 := hg7.to k_10
  replace hg8 := hg8.to k_10
  replace hmx := hmx.to k_10
  replace hbx := hbx.to k_10
  replace hg9 := hg9.to k_10
  replace hmy := hmy.to k_10
  replace hby := hby.to k_10
  replace hg11 := hg11.to k_10
  replace hmz := hmz.to k_10
  replace hbz := hbz.to k_10
  replace k := k.trans k_10
  clear k_10
  repeat (first | refine r_assign (by conv => (lhs; whnf)) ?_ | refine r_nil ?_)
  refine q_then ?_
  refine wp_fresh [(5, .pointer (some ⟨g5, 0, none⟩)), (6, .pointer (some ⟨g6, 0, none⟩)), (7, .pointer (some ⟨g7, 0, none⟩)), (8, .pointer (some ⟨g8, 0, none⟩)), (9, .pointer (some ⟨g9, 0, none⟩)), (10, .int .i64 e), (11, .pointer (some ⟨g11, 0, none⟩)), (12, .int .i64 f), (13, .pointer (some ⟨g13, 0, none⟩)), (14, .int .i64 g)] ⟨rfl, rfl, rfl, rfl, rfl, rfl, rfl, rfl, rfl, rfl, trivial⟩ ?_
  intro uf_1
  have rx := dx.rl rs (by decide)
  have ry := dy.rl rd (by decide)
  have rz := dz.rl rm (by decide)
  by_cases hb0 : b.num = 0
  · repeat (first | refine r_load_all rfl hg5 rfl ?_ | refine r_load_all rfl hg7 rfl ?_ | refine wp_seq_region ?_ | refine wp_region ?_)
    refine r_call (rquo0_c (S := All) (a := a) (b := b) Up.all ⟨ma, ba, rfl, hma, hba⟩ ⟨mb, bb, rfl, hmb, hbb⟩ hb0) rfl ?_
    rintro v_11 w_11 ⟨k_11, r, rfl, mu, bu, rfl, hmu, hbu⟩
    replace hma := hma.to k_11
    replace hba := hba.to k_11
    replace hmp := hmp.to k_11
    replace hbp := hbp.to k_11
    replace hg5 := hg5.to k_11
    replace hg6 := hg6.to k_11
    replace hmb := hmb.to k_11
    replace hbb := hbb.to k_11
    replace hmq := hmq.to k_11
    replace hbq := hbq.to k_11
    replace hg7 := hg7.to k_11
    replace hg8 := hg8.to k_11
    replace hmx := hmx.to k_11
    replace hbx := hbx.to k_11
    replace hg9 := hg9.to k_11
    replace hmy := hmy.to k_11
    replace hby := hby.to k_11
    replace hg11 := hg11.to k_11
    replace hmz := hmz.to k_11
    replace hbz := hbz.to k_11
    replace hg13 := hg13.to k_11
    replace k := k.trans k_11
    clear k_11
    repeat (first | refine r_move (by conv => (lhs; whnf)) ?_ | refine r_extract rfl rfl ?_)
    refine r_new (zs := [.bool false, .slice none 0 0, .slice none 0 0]) (us := [.bool (tst ((0 : Rat).num < 0)), mu, bu]) rfl (fun _ => rfl) rfl rfl (ones3 rfl hmu.one hbu.one) ?_
    intro w_12 g15 k_12 hs_12 hg15
    have hsg15 : w.heap.size ≤ g15 := Nat.le_trans k.size hs_12
    clear hs_12
    replace hma := hma.to k_12
    replace hba := hba.to k_12
    replace hmp := hmp.to k_12
    replace hbp := hbp.to k_12
    replace hg5 := hg5.to k_12
    replace hg6 := hg6.to k_12
    replace hmb := hmb.to k_12
    replace hbb := hbb.to k_12
    replace hmq := hmq.to k_12
    replace hbq := hbq.to k_12
    replace hg7 := hg7.to k_12
    replace hg8 := hg8.to k_12
    replace hmx := hmx.to k_12
    replace hbx := hbx.to k_12
    replace hg9 := hg9.to k_12
    replace hmy := hmy.to k_12
    replace hby := hby.to k_12
    replace hg11 := hg11.to k_12
    replace hmz := hmz.to k_12
    replace hbz := hbz.to k_12
    replace hg13 := hg13.to k_12
    replace hmu := hmu.to k_12
    replace hbu := hbu.to k_12
    replace k := k.trans k_12
    clear k_12
    repeat (first | refine r_assign (by conv => (lhs; whnf)) ?_ | refine r_nil ?_)
    refine q_then ?_
    refine wp_fresh [(5, .pointer (some ⟨g5, 0, none⟩)), (6, .pointer (some ⟨g6, 0, none⟩)), (7, .pointer (some ⟨g7, 0, none⟩)), (8, .pointer (some ⟨g8, 0, none⟩)), (9, .pointer (some ⟨g9, 0, none⟩)), (10, .int .i64 e), (11, .pointer (some ⟨g11, 0, none⟩)), (12, .int .i64 f), (13, .pointer (some ⟨g13, 0, none⟩)), (14, .int .i64 g), (15, .pointer (some ⟨g15, 0, none⟩)), (16, .int .i64 6)] ⟨rfl, rfl, rfl, rfl, rfl, rfl, rfl, rfl, rfl, rfl, rfl, rfl, trivial⟩ ?_
    intro uf_2
    repeat (first | refine wp_seq_region ?_ | refine wp_seq_seq ?_)
    refine wp_drawn 33 (by kernel_rfl) (by kernel_rfl) ?_
    apply ob_step
    · intro x w1 k1 hd
      refine r_load_all rfl (hg9.to k1) rfl ?_
      refine r_nil ?_
      exact ob_eq
    apply ob_step
    · intro x w1 k1 hd
      refine r_move (by conv => (lhs; whnf)) ?_
      refine r_nil ?_
      exact ob_eq
    apply ob_step
    · intro x w1 k1 hd
      refine r_load_all rfl (hg6.to k1) rfl ?_
      refine r_nil ?_
      exact ob_eq
    apply ob_step
    · intro x w1 k1 hd
      refine r_load_all rfl (hg8.to k1) rfl ?_
      refine r_nil ?_
      exact ob_eq
    refine ob_step (e := qE All (a + b)) ?_ ?_
    · intro x w1 k1 hd
      refine r_call (zplus_c (a := a) (b := b) Up.all ⟨mp, bp, rfl, hmp.to k1, hbp.to k1⟩ ⟨mq, bq, rfl, hmq.to k1, hbq.to k1⟩ ra4 rb4) rfl ?_
      rintro v2 w2 ⟨k2, h2⟩
      exact r_nil (ob_of k2 h2)
    refine ob_step (e := Ent.eq (.bool true)) ?_ ?_
    · intro x w1 k1 hd
      refine r_call (done_l (S := All) (e := e) (r := xs) (q := a + b) Up.all (ht.to (k.trans k1)) ⟨mx, bx, rfl, hmx.to k1, hbx.to k1⟩ hd.1 rx rs) rfl ?_
      rintro v2 w2 ⟨rfl, k2⟩
      exact r_nil (ob_eqv (congrArg Value.bool (tst_true dx.tt)) k2)
    apply ob_step
    · intro x w1 k1 hd
      refine r_not rfl ?_
      refine r_nil ?_
      exact ob_eq
    apply ob_step
    · intro x w1 k1 hd
      refine r_move (by conv => (lhs; whnf)) ?_
      refine r_nil ?_
      exact ob_eq
    apply ob_step
    · intro x w1 k1 hd
      refine r_guard_run rfl rfl ?_
      refine r_load_all rfl (hg11.to k1) rfl ?_
      refine r_nil ?_
      exact ob_eq
    apply ob_step
    · intro x w1 k1 hd
      refine r_guard_run rfl rfl ?_
      refine r_move (by conv => (lhs; whnf)) ?_
      refine r_nil ?_
      exact ob_eq
    apply ob_step
    · intro x w1 k1 hd
      refine r_guard_run rfl rfl ?_
      refine r_load_all rfl (hg6.to k1) rfl ?_
      refine r_nil ?_
      exact ob_eq
    apply ob_step
    · intro x w1 k1 hd
      refine r_guard_run rfl rfl ?_
      refine r_load_all rfl (hg8.to k1) rfl ?_
      refine r_nil ?_
      exact ob_eq
    refine ob_step (e := qE All (a - b)) ?_ ?_
    · intro x w1 k1 hd
      refine r_guard_run rfl rfl ?_
      refine r_call (zminus_c (a := a) (b := b) Up.all ⟨mp, bp, rfl, hmp.to k1, hbp.to k1⟩ ⟨mq, bq, rfl, hmq.to k1, hbq.to k1⟩ ra4 rb4) rfl ?_
      rintro v2 w2 ⟨k2, h2⟩
      exact r_nil (ob_of k2 h2)
    refine ob_step (e := Ent.eq (.bool true)) ?_ ?_
    · intro x w1 k1 hd
      refine r_guard_run rfl rfl ?_
      refine r_call (done_l (S := All) (e := f) (r := y) (q := a - b) Up.all (ht.to (k.trans k1)) ⟨my, by', rfl, hmy.to k1, hby.to k1⟩ hd.1 ry rd) rfl ?_
      rintro v2 w2 ⟨rfl, k2⟩
      exact r_nil (ob_eqv (congrArg Value.bool (tst_true dy.tt)) k2)
    apply ob_step
    · intro x w1 k1 hd
      refine r_guard_run rfl rfl ?_
      refine r_not rfl ?_
      refine r_nil ?_
      exact ob_eq
    apply ob_step
    · intro x w1 k1 hd
      refine r_pick_false rfl (by conv => (lhs; whnf)) ?_
      refine r_nil ?_
      exact ob_eq
    apply ob_step
    · intro x w1 k1 hd
      refine r_move (by conv => (lhs; whnf)) ?_
      refine r_nil ?_
      exact ob_eq
    apply ob_step
    · intro x w1 k1 hd
      refine r_guard_run rfl rfl ?_
      refine r_load_all rfl (hg13.to k1) rfl ?_
      refine r_nil ?_
      exact ob_eq
    apply ob_step
    · intro x w1 k1 hd
      refine r_guard_run rfl rfl ?_
      refine r_move (by conv => (lhs; whnf)) ?_
      refine r_nil ?_
      exact ob_eq
    apply ob_step
    · intro x w1 k1 hd
      refine r_guard_run rfl rfl ?_
      refine r_load_all rfl (hg6.to k1) rfl ?_
      refine r_nil ?_
      exact ob_eq
    apply ob_step
    · intro x w1 k1 hd
      refine r_guard_run rfl rfl ?_
      refine r_load_all rfl (hg8.to k1) rfl ?_
      refine r_nil ?_
      exact ob_eq
    refine ob_step (e := qE All (a * b)) ?_ ?_
    · intro x w1 k1 hd
      refine r_guard_run rfl rfl ?_
      refine r_call (ztimes_c (a := a) (b := b) Up.all ⟨mp, bp, rfl, hmp.to k1, hbp.to k1⟩ ⟨mq, bq, rfl, hmq.to k1, hbq.to k1⟩ ra4 rb4) rfl ?_
      rintro v2 w2 ⟨k2, h2⟩
      exact r_nil (ob_of k2 h2)
    refine ob_step (e := Ent.eq (.bool true)) ?_ ?_
    · intro x w1 k1 hd
      refine r_guard_run rfl rfl ?_
      refine r_call (done_l (S := All) (e := g) (r := z) (q := a * b) Up.all (ht.to (k.trans k1)) ⟨mz, bz, rfl, hmz.to k1, hbz.to k1⟩ hd.1 rz rm) rfl ?_
      rintro v2 w2 ⟨rfl, k2⟩
      exact r_nil (ob_eqv (congrArg Value.bool (tst_true dz.tt)) k2)
    apply ob_step
    · intro x w1 k1 hd
      refine r_guard_run rfl rfl ?_
      refine r_not rfl ?_
      refine r_nil ?_
      exact ob_eq
    apply ob_step
    · intro x w1 k1 hd
      refine r_pick_false rfl (by conv => (lhs; whnf)) ?_
      refine r_nil ?_
      exact ob_eq
    apply ob_step
    · intro x w1 k1 hd
      refine r_move (by conv => (lhs; whnf)) ?_
      refine r_nil ?_
      exact ob_eq
    apply ob_step
    · intro x w1 k1 hd
      refine r_guard_run rfl rfl ?_
      refine r_load_all rfl (hg5.to k1) rfl ?_
      refine r_nil ?_
      exact ob_eq
    apply ob_step
    · intro x w1 k1 hd
      refine r_guard_run rfl rfl ?_
      refine r_load_all rfl (hg7.to k1) rfl ?_
      refine r_nil ?_
      exact ob_eq
    refine ob_step (e := Ent.eq (.int .i64 (a.num * b.den - b.num * a.den).sign)) ?_ ?_
    · intro x w1 k1 hd
      refine r_guard_run rfl rfl ?_
      refine r_call (rcmp_c (S := All) (a := a) (b := b) Up.all ⟨ma, ba, rfl, hma.to k1, hba.to k1⟩ ⟨mb, bb, rfl, hmb.to k1, hbb.to k1⟩ ra4 rb4) rfl ?_
      rintro v2 w2 ⟨rfl, k2⟩
      exact r_nil (ob_eqv (rfl) k2)
    apply ob_step
    · intro x w1 k1 hd
      refine r_guard_run rfl rfl ?_
      refine r_load_all rfl (hg6.to k1) rfl ?_
      refine r_nil ?_
      exact ob_eq
    apply ob_step
    · intro x w1 k1 hd
      refine r_guard_run rfl rfl ?_
      refine r_load_all rfl (hg8.to k1) rfl ?_
      refine r_nil ?_
      exact ob_eq
    refine ob_step (e := Ent.eq (.int .i64 (a.num * b.den - b.num * a.den).sign)) ?_ ?_
    · intro x w1 k1 hd
      refine r_guard_run rfl rfl ?_
      refine r_call (zcompare_c (S := All) (a := a) (b := b) Up.all ⟨mp, bp, rfl, hmp.to k1, hbp.to k1⟩ ⟨mq, bq, rfl, hmq.to k1, hbq.to k1⟩ ra4 rb4) rfl ?_
      rintro v2 w2 ⟨rfl, k2⟩
      exact r_nil (ob_eqv (rfl) k2)
    refine ob_step (e := Ent.eq (.bool false)) ?_ ?_
    · intro x w1 k1 hd
      refine r_guard_run rfl rfl ?_
      refine r_neq rfl rfl ?_
      refine r_nil ?_
      exact ob_eqv (congrArg Value.bool (tst_false (fun h => h rfl))) .refl
    refine ob_nil (ob_end ?_)
    intro xx w11 k11 _
    replace hmp := hmp.to k11
    replace hbp := hbp.to k11
    replace hmq := hmq.to k11
    replace hbq := hbq.to k11
    replace hmu := hmu.to k11
    replace hbu := hbu.to k11
    replace hg8 := hg8.to k11
    replace hg15 := hg15.to k11
    replace k := k.trans k11
    clear k11
    repeat (first | refine r_load_all rfl hg8 rfl ?_ | refine wp_seq_region ?_ | refine wp_seq_seq ?_ | refine wp_region ?_ | refine r_nil ?_ | refine q_then ?_ | refine wp_skip ?_ | refine r_pick_false rfl (by conv => (lhs; whnf)) ?_ | refine wp_cond_false rfl ?_)
    refine r_call (zsgn_c (S := All) (q := b) ⟨mq, bq, rfl, hmq, hbq⟩) rfl ?_
    rintro v_14 w_14 ⟨rfl, k_14⟩
    replace hmp := hmp.to k_14
    replace hbp := hbp.to k_14
    replace hmq := hmq.to k_14
    replace hbq := hbq.to k_14
    replace hmu := hmu.to k_14
    replace hbu := hbu.to k_14
    replace hg8 := hg8.to k_14
    replace hg15 := hg15.to k_14
    replace k := k.trans k_14
    clear k_14
    repeat (first | refine r_nil ?_ | refine q_then ?_ | refine r_eql rfl rfl ?_)
    refine wp_cond_yes rfl (by rw [hb0]; rfl) ?_
    repeat (first | refine r_load_all rfl hg15 rfl ?_ | refine wp_seq_region ?_ | refine wp_region ?_ | refine r_move (by conv => (lhs; whnf)) ?_ | refine r_guard_run rfl rfl ?_ | refine r_eql rfl rfl ?_ | refine r_guard_yes rfl rfl (by omega) ?_)
    refine r_call (rsign_c (S := All) (q := 0) ⟨mu, bu, rfl, hmu, hbu⟩) rfl ?_
    rintro v_15 w_15 ⟨rfl, k_15⟩
    replace hmp := hmp.to k_15
    replace hbp := hbp.to k_15
    replace hmq := hmq.to k_15
    replace hbq := hbq.to k_15
    replace hmu := hmu.to k_15
    replace hbu := hbu.to k_15
    replace hg8 := hg8.to k_15
    replace hg15 := hg15.to k_15
    replace k := k.trans k_15
    clear k_15
    repeat (first | refine r_move (by conv => (lhs; whnf)) ?_ | refine r_guard_run rfl rfl ?_ | refine r_pick_true rfl (by conv => (lhs; whnf)) ?_ | refine r_eql rfl rfl ?_)
    refine r_guard_yes rfl rfl rfl ?_
    repeat (first | refine r_guard_run rfl rfl ?_)
    refine r_call (awake_c (ht.to k)) rfl ?_
    rintro v_16 w_16 ⟨rfl, k_16⟩
    replace hmp := hmp.to k_16
    replace hbp := hbp.to k_16
    replace hmq := hmq.to k_16
    replace hbq := hbq.to k_16
    replace hmu := hmu.to k_16
    replace hbu := hbu.to k_16
    replace hg8 := hg8.to k_16
    replace hg15 := hg15.to k_16
    replace k := k.trans k_16
    clear k_16
    repeat (first | refine r_assign (by conv => (lhs; whnf)) ?_ | refine r_nil ?_ | refine q_then ?_ | refine wp_ret ?_ | refine q_then_ret ?_ | refine r_pick_true rfl (by conv => (lhs; whnf)) ?_)
    exact end_tmp rfl (by conv => (lhs; whnf)) ⟨rfl, k⟩
  · have ro : rl (a / b) 400000000000 := rl_mono (rl_div ra rb hb0) (by decide)
    repeat (first | refine r_load_all rfl hg5 rfl ?_ | refine r_load_all rfl hg7 rfl ?_ | refine wp_seq_region ?_ | refine wp_region ?_)
    refine r_call (rquo_c (S := All) (a := a) (b := b) Up.all ⟨ma, ba, rfl, hma, hba⟩ ⟨mb, bb, rfl, hmb, hbb⟩ ra4 rb4 hb0) rfl ?_
    rintro v_11 w_11 ⟨k_11, htr⟩
    replace hma := hma.to k_11
    replace hba := hba.to k_11
    replace hmp := hmp.to k_11
    replace hbp := hbp.to k_11
    replace hg5 := hg5.to k_11
    replace hg6 := hg6.to k_11
    replace hmb := hmb.to k_11
    replace hbb := hbb.to k_11
    replace hmq := hmq.to k_11
    replace hbq := hbq.to k_11
    replace hg7 := hg7.to k_11
    replace hg8 := hg8.to k_11
    replace hmx := hmx.to k_11
    replace hbx := hbx.to k_11
    replace hg9 := hg9.to k_11
    replace hmy := hmy.to k_11
    replace hby := hby.to k_11
    replace hg11 := hg11.to k_11
    replace hmz := hmz.to k_11
    replace hbz := hbz.to k_11
    replace hg13 := hg13.to k_11
    replace k := k.trans k_11
    clear k_11
    obtain ⟨h, u, mu, bu, rfl, du, hmu, hbu⟩ := htr.done
    clear htr
    have ru := du.rl ro (by decide)
    repeat (first | refine r_move (by conv => (lhs; whnf)) ?_ | refine r_extract rfl rfl ?_)
    refine r_new (zs := [.bool false, .slice none 0 0, .slice none 0 0]) (us := [.bool (tst (u.num < 0)), mu, bu]) rfl (fun _ => rfl) rfl rfl (ones3 rfl hmu.one hbu.one) ?_
    intro w_12 g15 k_12 hs_12 hg15
    have hsg15 : w.heap.size ≤ g15 := Nat.le_trans k.size hs_12
    clear hs_12
    replace hma := hma.to k_12
    replace hba := hba.to k_12
    replace hmp := hmp.to k_12
    replace hbp := hbp.to k_12
    replace hg5 := hg5.to k_12
    replace hg6 := hg6.to k_12
    replace hmb := hmb.to k_12
    replace hbb := hbb.to k_12
    replace hmq := hmq.to k_12
    replace hbq := hbq.to k_12
    replace hg7 := hg7.to k_12
    replace hg8 := hg8.to k_12
    replace hmx := hmx.to k_12
    replace hbx := hbx.to k_12
    replace hg9 := hg9.to k_12
    replace hmy := hmy.to k_12
    replace hby := hby.to k_12
    replace hg11 := hg11.to k_12
    replace hmz := hmz.to k_12
    replace hbz := hbz.to k_12
    replace hg13 := hg13.to k_12
    replace hmu := hmu.to k_12
    replace hbu := hbu.to k_12
    replace k := k.trans k_12
    clear k_12
    repeat (first | refine r_assign (by conv => (lhs; whnf)) ?_ | refine r_nil ?_)
    refine q_then ?_
    refine wp_fresh [(5, .pointer (some ⟨g5, 0, none⟩)), (6, .pointer (some ⟨g6, 0, none⟩)), (7, .pointer (some ⟨g7, 0, none⟩)), (8, .pointer (some ⟨g8, 0, none⟩)), (9, .pointer (some ⟨g9, 0, none⟩)), (10, .int .i64 e), (11, .pointer (some ⟨g11, 0, none⟩)), (12, .int .i64 f), (13, .pointer (some ⟨g13, 0, none⟩)), (14, .int .i64 g), (15, .pointer (some ⟨g15, 0, none⟩)), (16, .int .i64 h)] ⟨rfl, rfl, rfl, rfl, rfl, rfl, rfl, rfl, rfl, rfl, rfl, rfl, trivial⟩ ?_
    intro uf_3
    repeat (first | refine wp_seq_region ?_ | refine wp_seq_seq ?_)
    refine wp_drawn 33 (by kernel_rfl) (by kernel_rfl) ?_
    apply ob_step
    · intro x w1 k1 hd
      refine r_load_all rfl (hg9.to k1) rfl ?_
      refine r_nil ?_
      exact ob_eq
    apply ob_step
    · intro x w1 k1 hd
      refine r_move (by conv => (lhs; whnf)) ?_
      refine r_nil ?_
      exact ob_eq
    apply ob_step
    · intro x w1 k1 hd
      refine r_load_all rfl (hg6.to k1) rfl ?_
      refine r_nil ?_
      exact ob_eq
    apply ob_step
    · intro x w1 k1 hd
      refine r_load_all rfl (hg8.to k1) rfl ?_
      refine r_nil ?_
      exact ob_eq
    refine ob_step (e := qE All (a + b)) ?_ ?_
    · intro x w1 k1 hd
      refine r_call (zplus_c (a := a) (b := b) Up.all ⟨mp, bp, rfl, hmp.to k1, hbp.to k1⟩ ⟨mq, bq, rfl, hmq.to k1, hbq.to k1⟩ ra4 rb4) rfl ?_
      rintro v2 w2 ⟨k2, h2⟩
      exact r_nil (ob_of k2 h2)
    refine ob_step (e := Ent.eq (.bool true)) ?_ ?_
    · intro x w1 k1 hd
      refine r_call (done_l (S := All) (e := e) (r := xs) (q := a + b) Up.all (ht.to (k.trans k1)) ⟨mx, bx, rfl, hmx.to k1, hbx.to k1⟩ hd.1 rx rs) rfl ?_
      rintro v2 w2 ⟨rfl, k2⟩
      exact r_nil (ob_eqv (congrArg Value.bool (tst_true dx.tt)) k2)
    apply ob_step
    · intro x w1 k1 hd
      refine r_not rfl ?_
      refine r_nil ?_
      exact ob_eq
    apply ob_step
    · intro x w1 k1 hd
      refine r_move (by conv => (lhs; whnf)) ?_
      refine r_nil ?_
      exact ob_eq
    apply ob_step
    · intro x w1 k1 hd
      refine r_guard_run rfl rfl ?_
      refine r_load_all rfl (hg11.to k1) rfl ?_
      refine r_nil ?_
      exact ob_eq
    apply ob_step
    · intro x w1 k1 hd
      refine r_guard_run rfl rfl ?_
      refine r_move (by conv => (lhs; whnf)) ?_
      refine r_nil ?_
      exact ob_eq
    apply ob_step
    · intro x w1 k1 hd
      refine r_guard_run rfl rfl ?_
      refine r_load_all rfl (hg6.to k1) rfl ?_
      refine r_nil ?_
      exact ob_eq
    apply ob_step
    · intro x w1 k1 hd
      refine r_guard_run rfl rfl ?_
      refine r_load_all rfl (hg8.to k1) rfl ?_
      refine r_nil ?_
      exact ob_eq
    refine ob_step (e := qE All (a - b)) ?_ ?_
    · intro x w1 k1 hd
      refine r_guard_run rfl rfl ?_
      refine r_call (zminus_c (a := a) (b := b) Up.all ⟨mp, bp, rfl, hmp.to k1, hbp.to k1⟩ ⟨mq, bq, rfl, hmq.to k1, hbq.to k1⟩ ra4 rb4) rfl ?_
      rintro v2 w2 ⟨k2, h2⟩
      exact r_nil (ob_of k2 h2)
    refine ob_step (e := Ent.eq (.bool true)) ?_ ?_
    · intro x w1 k1 hd
      refine r_guard_run rfl rfl ?_
      refine r_call (done_l (S := All) (e := f) (r := y) (q := a - b) Up.all (ht.to (k.trans k1)) ⟨my, by', rfl, hmy.to k1, hby.to k1⟩ hd.1 ry rd) rfl ?_
      rintro v2 w2 ⟨rfl, k2⟩
      exact r_nil (ob_eqv (congrArg Value.bool (tst_true dy.tt)) k2)
    apply ob_step
    · intro x w1 k1 hd
      refine r_guard_run rfl rfl ?_
      refine r_not rfl ?_
      refine r_nil ?_
      exact ob_eq
    apply ob_step
    · intro x w1 k1 hd
      refine r_pick_false rfl (by conv => (lhs; whnf)) ?_
      refine r_nil ?_
      exact ob_eq
    apply ob_step
    · intro x w1 k1 hd
      refine r_move (by conv => (lhs; whnf)) ?_
      refine r_nil ?_
      exact ob_eq
    apply ob_step
    · intro x w1 k1 hd
      refine r_guard_run rfl rfl ?_
      refine r_load_all rfl (hg13.to k1) rfl ?_
      refine r_nil ?_
      exact ob_eq
    apply ob_step
    · intro x w1 k1 hd
      refine r_guard_run rfl rfl ?_
      refine r_move (by conv => (lhs; whnf)) ?_
      refine r_nil ?_
      exact ob_eq
    apply ob_step
    · intro x w1 k1 hd
      refine r_guard_run rfl rfl ?_
      refine r_load_all rfl (hg6.to k1) rfl ?_
      refine r_nil ?_
      exact ob_eq
    apply ob_step
    · intro x w1 k1 hd
      refine r_guard_run rfl rfl ?_
      refine r_load_all rfl (hg8.to k1) rfl ?_
      refine r_nil ?_
      exact ob_eq
    refine ob_step (e := qE All (a * b)) ?_ ?_
    · intro x w1 k1 hd
      refine r_guard_run rfl rfl ?_
      refine r_call (ztimes_c (a := a) (b := b) Up.all ⟨mp, bp, rfl, hmp.to k1, hbp.to k1⟩ ⟨mq, bq, rfl, hmq.to k1, hbq.to k1⟩ ra4 rb4) rfl ?_
      rintro v2 w2 ⟨k2, h2⟩
      exact r_nil (ob_of k2 h2)
    refine ob_step (e := Ent.eq (.bool true)) ?_ ?_
    · intro x w1 k1 hd
      refine r_guard_run rfl rfl ?_
      refine r_call (done_l (S := All) (e := g) (r := z) (q := a * b) Up.all (ht.to (k.trans k1)) ⟨mz, bz, rfl, hmz.to k1, hbz.to k1⟩ hd.1 rz rm) rfl ?_
      rintro v2 w2 ⟨rfl, k2⟩
      exact r_nil (ob_eqv (congrArg Value.bool (tst_true dz.tt)) k2)
    apply ob_step
    · intro x w1 k1 hd
      refine r_guard_run rfl rfl ?_
      refine r_not rfl ?_
      refine r_nil ?_
      exact ob_eq
    apply ob_step
    · intro x w1 k1 hd
      refine r_pick_false rfl (by conv => (lhs; whnf)) ?_
      refine r_nil ?_
      exact ob_eq
    apply ob_step
    · intro x w1 k1 hd
      refine r_move (by conv => (lhs; whnf)) ?_
      refine r_nil ?_
      exact ob_eq
    apply ob_step
    · intro x w1 k1 hd
      refine r_guard_run rfl rfl ?_
      refine r_load_all rfl (hg5.to k1) rfl ?_
      refine r_nil ?_
      exact ob_eq
    apply ob_step
    · intro x w1 k1 hd
      refine r_guard_run rfl rfl ?_
      refine r_load_all rfl (hg7.to k1) rfl ?_
      refine r_nil ?_
      exact ob_eq
    refine ob_step (e := Ent.eq (.int .i64 (a.num * b.den - b.num * a.den).sign)) ?_ ?_
    · intro x w1 k1 hd
      refine r_guard_run rfl rfl ?_
      refine r_call (rcmp_c (S := All) (a := a) (b := b) Up.all ⟨ma, ba, rfl, hma.to k1, hba.to k1⟩ ⟨mb, bb, rfl, hmb.to k1, hbb.to k1⟩ ra4 rb4) rfl ?_
      rintro v2 w2 ⟨rfl, k2⟩
      exact r_nil (ob_eqv (rfl) k2)
    apply ob_step
    · intro x w1 k1 hd
      refine r_guard_run rfl rfl ?_
      refine r_load_all rfl (hg6.to k1) rfl ?_
      refine r_nil ?_
      exact ob_eq
    apply ob_step
    · intro x w1 k1 hd
      refine r_guard_run rfl rfl ?_
      refine r_load_all rfl (hg8.to k1) rfl ?_
      refine r_nil ?_
      exact ob_eq
    refine ob_step (e := Ent.eq (.int .i64 (a.num * b.den - b.num * a.den).sign)) ?_ ?_
    · intro x w1 k1 hd
      refine r_guard_run rfl rfl ?_
      refine r_call (zcompare_c (S := All) (a := a) (b := b) Up.all ⟨mp, bp, rfl, hmp.to k1, hbp.to k1⟩ ⟨mq, bq, rfl, hmq.to k1, hbq.to k1⟩ ra4 rb4) rfl ?_
      rintro v2 w2 ⟨rfl, k2⟩
      exact r_nil (ob_eqv (rfl) k2)
    refine ob_step (e := Ent.eq (.bool false)) ?_ ?_
    · intro x w1 k1 hd
      refine r_guard_run rfl rfl ?_
      refine r_neq rfl rfl ?_
      refine r_nil ?_
      exact ob_eqv (congrArg Value.bool (tst_false (fun h => h rfl))) .refl
    refine ob_nil (ob_end ?_)
    intro xx w11 k11 _
    replace hmp := hmp.to k11
    replace hbp := hbp.to k11
    replace hmq := hmq.to k11
    replace hbq := hbq.to k11
    replace hmu := hmu.to k11
    replace hbu := hbu.to k11
    replace hg6 := hg6.to k11
    replace hg8 := hg8.to k11
    replace hg15 := hg15.to k11
    replace k := k.trans k11
    clear k11
    repeat (first | refine r_load_all rfl hg8 rfl ?_ | refine wp_seq_region ?_ | refine wp_seq_seq ?_ | refine wp_region ?_ | refine r_nil ?_ | refine q_then ?_ | refine wp_skip ?_ | refine r_pick_false rfl (by conv => (lhs; whnf)) ?_ | refine wp_cond_false rfl ?_)
    refine r_call (zsgn_c (S := All) (q := b) ⟨mq, bq, rfl, hmq, hbq⟩) rfl ?_
    rintro v_14 w_14 ⟨rfl, k_14⟩
    replace hmp := hmp.to k_14
    replace hbp := hbp.to k_14
    replace hmq := hmq.to k_14
    replace hbq := hbq.to k_14
    replace hmu := hmu.to k_14
    replace hbu := hbu.to k_14
    replace hg6 := hg6.to k_14
    replace hg8 := hg8.to k_14
    replace hg15 := hg15.to k_14
    replace k := k.trans k_14
    clear k_14
    repeat (first | refine r_nil ?_ | refine q_then ?_ | refine r_eql rfl rfl ?_)
    refine wp_cond_no rfl (fun h => hb0 (Int.sign_eq_zero_iff_zero.1 h)) ?_
    repeat (first | refine wp_seq_region ?_ | refine wp_skip ?_)
    refine wp_drawn 8 (by kernel_rfl) (by kernel_rfl) ?_
    apply ob_step
    · intro x w1 k1 hd
      refine r_load_all rfl (hg15.to k1) rfl ?_
      refine r_nil ?_
      exact ob_eq
    apply ob_step
    · intro x w1 k1 hd
      refine r_move (by conv => (lhs; whnf)) ?_
      refine r_nil ?_
      exact ob_eq
    apply ob_step
    · intro x w1 k1 hd
      refine r_load_all rfl (hg6.to k1) rfl ?_
      refine r_nil ?_
      exact ob_eq
    apply ob_step
    · intro x w1 k1 hd
      refine r_load_all rfl (hg8.to k1) rfl ?_
      refine r_nil ?_
      exact ob_eq
    refine ob_step (e := qE All (a / b)) ?_ ?_
    · intro x w1 k1 hd
      refine r_call (zover_c (a := a) (b := b) Up.all ⟨mp, bp, rfl, hmp.to k1, hbp.to k1⟩ ⟨mq, bq, rfl, hmq.to k1, hbq.to k1⟩ ra4 rb4 hb0) rfl ?_
      rintro v2 w2 ⟨k2, h2⟩
      exact r_nil (ob_of k2 h2)
    refine ob_step (e := Ent.eq (.bool true)) ?_ ?_
    · intro x w1 k1 hd
      refine r_call (done_l (S := All) (e := h) (r := u) (q := a / b) Up.all (ht.to (k.trans k1)) ⟨mu, bu, rfl, hmu.to k1, hbu.to k1⟩ hd.1 ru ro) rfl ?_
      rintro v2 w2 ⟨rfl, k2⟩
      exact r_nil (ob_eqv (congrArg Value.bool (tst_true du.tt)) k2)
    apply ob_step
    · intro x w1 k1 hd
      refine r_move (by conv => (lhs; whnf)) ?_
      refine r_nil ?_
      exact ob_eq
    refine ob_step (e := Ent.eq (.bool true)) ?_ ?_
    · intro x w1 k1 hd
      refine r_guard_run rfl rfl ?_
      refine r_call (awake_c (ht.to (k.trans k1))) rfl ?_
      rintro v2 w2 ⟨rfl, k2⟩
      exact r_nil (ob_eqv (rfl) k2)
    refine ob_nil (ob_end ?_)
    intro xx w12 k12 _
    replace k := k.trans k12
    clear k12
    repeat (first | refine r_assign (by conv => (lhs; whnf)) ?_ | refine r_nil ?_ | refine q_then ?_ | refine wp_ret ?_ | refine r_pick_true rfl (by conv => (lhs; whnf)) ?_)
    exact end_tmp rfl (by conv => (lhs; whnf)) ⟨rfl, k⟩
end Go.Proofs.YtpmnjjmngogkkaaGreatDoor
end

section
/- What the joins of several statements share. -/
set_option linter.unusedVariables false
namespace Go.Proofs.YtpmnjjmngogkkaaGreatDoor
open Go Go.ChangeShapes Go.WideShapes Go.ChangeAt Go.WideMaps Go.WideElems Go.RowKit

theorem own : ownKnob Tryz.prog.godebug = none := by kernel_rfl
theorem gTab : Tryz.prog.globalNamed "internal/strconv.uint64pow10" = some 3 := by kernel_rfl
theorem tTab : (Tryz.prog.globals[3]?).map (·.type) = some 251 := by kernel_rfl
theorem cTab : Tryz.prog.cellsOf 251 = 20 := by kernel_rfl
theorem cTabE : Tryz.prog.cellsOf 117 = 1 := by kernel_rfl
theorem dTab : (Rows.laid_internal_strconv_uint64pow10 : DataW Unit) = Lib.tabData .u64 Lib.pow10Tab := by rfl
end Go.Proofs.YtpmnjjmngogkkaaGreatDoor
end

section
/- The statement FracParts, proved: for every two strings (of at most 2^47 - 4096 bytes each, as the row reads them) the law returns true and leaves them as they were; the listed tables of the library hold what the program's text lays (the given tie). -/
set_option linter.unusedVariables false
namespace Go.Proofs.YtpmnjjmngogkkaaGreatDoor
open Go Go.ChangeShapes Go.WideShapes Go.ChangeAt Go.WideMaps Go.WideElems Go.RowKit
open Go.ChangeMaps (open_string shut_string)

/-- What the condition of the rows with seven listed variables gives the walks. -/
theorem p7_tab {W : World} (h : laidMetH Tryz.prog Rows.fracPartsRow.laid W) : Tab W := by
  rw [MakeChecks.laidMetH_plain _ _ _ (by kernel_rfl)] at h
  obtain ⟨ps, ⟨g0, t0, cs0, f0, p0, q0, hg0, ht0, hv0, hd0, ⟨g1, t1, cs1, f1, p1, q1, hg1, ht1, hv1, hd1, ⟨g2, t2, cs2, f2, p2, q2, hg2, ht2, hv2, hd2, _⟩, _⟩, _⟩, _⟩ := h
  obtain rfl := Option.some.inj (gTab.symm.trans hg2)
  obtain rfl := Option.some.inj (tTab.symm.trans ht2)
  rw [dTab] at hd2
  unfold Tab Lib.TabIs
  rw [hv2, ← Lib.cells_of_tab Tryz.underlying251 Tryz.underlying117 cTabE cTab hd2]
theorem p7_laid (os : Os) (args : Array Value) : laidMetH Tryz.prog Rows.fracPartsRow.laid ((World.laidAll Tryz.prog os Rows.fracPartsRow.laid).forCall (fun _ _ => 0) ⟨#[], args, []⟩).memory := by
  rw [MakeChecks.laidMetH_plain _ _ _ (by kernel_rfl)]
  exact laidMet_laidAll _ (by kernel_rfl) (by kernel_rfl)

set_option maxRecDepth 100000 in
theorem parts_lifted (os : Os) (started : os.Started) (H : Type) (enc : TypeId × Value → H) :
    ReturnsInHanded {} Tryz.checked os 5 .any (fun w args => (Rows.fracPartsSpec.pre enc Tryz.prog Tryz.f5 [] false w args ∧ laidMetH Tryz.prog Rows.fracPartsRow.laid w) ∧ sizedMet enc Tryz.prog Tryz.f5 (OpenSpec.ofChange Rows.fracPartsSpec) false w args)
      (Rows.fracPartsSpec.post enc Tryz.prog Tryz.f5 false true false false) := by
  refine returnsInHanded_of_change_and (C := Tryz.checked) (X := fun w _ => laidMetH Tryz.prog Rows.fracPartsRow.laid w) (fun _ _ _ hh h => h.of_heap hh) own started (by kernel_rfl) Tryz.func5
    (ChangeSpec.witness_shaped (enc := enc) (C := Tryz.checked) (os := os) (X := fun w _ => laidMetH Tryz.prog Rows.fracPartsRow.laid w) false (World.laidAll Tryz.prog os Rows.fracPartsRow.laid) #[.string ⟨#[]⟩, .string ⟨#[]⟩] 8 (World.laidAll_os _ _ _) (World.shaped_of_ZipB (by kernel_rfl) (by kernel_rfl)) (by kernel_rfl) (by kernel_rfl) (by kernel_rfl) (p7_laid os _)) ?_
  intro W base args ds gs before hval0 hW _ hsz0 hL _
  have hval : ∀ (j : Nat) t v, Tryz.f5.params[j]? = some t → args[j]? = some v → Value.okWide Tryz.prog W .any base t v := hval0
  have hW' := hW
  obtain ⟨p, q, hA0, hV, rfl, hfz, hnd⟩ := hW
  have hA : DataW.TrodAll enc Tryz.prog W 0 (fun _ => true) true Tryz.f5.params.toList args.toList ds p := hA0
  have hsz : (DataW.weightsEach Tryz.prog (Tryz.f5.params.toList ++ Rows.fracPartsSpec.plain.varTypes Tryz.prog) (ds ++ gs)).all (· ≤ reachBytes) = true := hsz0
  rw [Tryz.params5] at hA hval hsz
  obtain ⟨v0, v1, d0, d1, p0, p1, rfl, rfl, rfl, h0, h1⟩ := trodAll_two hA
  obtain ⟨rfl, rfl⟩ := trodVars_none hV
  obtain ⟨s, rfl, rfl, rfl, hs⟩ := open_string Tryz.underlying9 (hval 0 9 v0 rfl rfl) h0
  obtain ⟨u, rfl, rfl, rfl, hu⟩ := open_string Tryz.underlying9 (hval 1 9 v1 rfl rfl) h1
  clear hA0 hval0 hsz0
  have ls : s.data.toList.length ≤ 140737488351232 := sized_string hsz (j := 0) rfl rfl
  have lu : u.data.toList.length ≤ 140737488351232 := sized_string hsz (j := 1) rfl rfl
  simp only [List.append_nil] at hW'
  refine Calls.mono (fracParts_c (s := s.data.toList) (t := u.data.toList) (p7_tab hL) ls lu) fun e W' ⟨v, he, hv, hw⟩ => ?_
  subst he hv
  refine ⟨_, rfl, _, _, _, [], [], [], hW', ?_, ?_, rfl, hw.below.frame _, fun h => by cases h⟩
  · exact trodAll_mk1 (shut_bool Tryz.underlying4 _)
  · exact trodAll_mk2 (shut_string Tryz.underlying9 hs) (shut_string Tryz.underlying9 hu)

theorem parts_row : Rows.FracPartsSaid :=
  OpenClaim.holds_of_wide 5 Tryz.f5 rfl rfl rfl rfl rfl rfl rfl ⟨rfl, rfl, rfl, rfl, rfl⟩ rfl rfl rfl rfl rfl (by kernel_rfl) Tryz.func5 (by kernel_rfl)
    (of_decide_eq_true (by kernel_rfl)) (by unfold Func.isWrapper; first | (rw [if_pos (by decide +kernel)]; kernel_rfl) | (rw [if_neg (by decide +kernel)]; exact ⟨rfl, rfl⟩))
    (fun os started H enc _ => parts_lifted os started H enc)

theorem parts_holds : Rows.FracPartsCardSaid :=
  Claim7.holds_tied_plain_at .later [] [.data, .data, .data, .data, .sentinel, .sentinel, .pinned] true (true, "650b10b7f83fe311f89b80045fa31e214c315223ee2619adf08cc50f1eb5f2c2") true
    parts_row (fun _ h => by cases h) (by kernel_rfl) (fun _ h => by cases h) fracParts_row_tie rfl ⟨rfl, rfl⟩ (by kernel_rfl) rfl
    (fun f fn hf hfn => by
      obtain rfl : f = 5 := Option.some.inj ((show Tryz.prog.funcNamed "rabbet/rabbetlaw01.FracParts" = some 5 by kernel_rfl).symm.trans hf) |>.symm
      obtain rfl : fn = Tryz.f5 := (Option.some.inj (Tryz.func5.symm.trans hfn)).symm
      exact ⟨by kernel_rfl, fun j t ht => by
        rw [Tryz.params5] at ht
        have h3 : t = 9 := by
          rcases j with _ | _ | j
          · simpa using ht.symm
          · simpa using ht.symm
          · simp at ht
        subst h3
        exact (show Tryz.prog.wantsStandIn 9 = false by kernel_rfl)⟩)
    (by kernel_rfl)
#print axioms parts_holds
end Go.Proofs.YtpmnjjmngogkkaaGreatDoor
end
