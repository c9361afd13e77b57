/- Plain arithmetic: natural numbers as lists of digits to the base 10^9, the lowest first. No program in sight. -/
set_option linter.unusedVariables false
namespace Go.Proofs.YtpmnjjmngogkkaaGreatDoor

def nval : List Nat → Nat
  | [] => 0
  | d :: r => d + 1000000000 * nval r
def Digs (l : List Nat) : Prop := ∀ d ∈ l, d < 1000000000
def Canon (l : List Nat) : Prop := Digs l ∧ ∀ h : l ≠ [], l.getLast h ≠ 0

theorem nval_append (a b : List Nat) : nval (a ++ b) = nval a + 1000000000 ^ a.length * nval b := by
  induction a with
  | nil => simp [nval]
  | cons d r ih =>
    simp only [List.cons_append, nval, ih, List.length_cons, Nat.pow_succ]
    rw [Nat.mul_add, ← Nat.mul_assoc, Nat.mul_comm 1000000000 (1000000000 ^ r.length), Nat.add_assoc]
theorem Digs.tail {d : Nat} {r : List Nat} (h : Digs (d :: r)) : Digs r := fun x hx => h x (List.mem_cons_of_mem _ hx)
theorem Digs.head {d : Nat} {r : List Nat} (h : Digs (d :: r)) : d < 1000000000 := h d (List.mem_cons_self ..)
theorem Digs.append {a b : List Nat} (h : Digs a) (k : Digs b) : Digs (a ++ b) := fun x hx => (List.mem_append.1 hx).elim (h x) (k x)
theorem Digs.left {a b : List Nat} (h : Digs (a ++ b)) : Digs a := fun x hx => h x (List.mem_append_left _ hx)
theorem Digs.right {a b : List Nat} (h : Digs (a ++ b)) : Digs b := fun x hx => h x (List.mem_append_right _ hx)
theorem Digs.get {l : List Nat} (h : Digs l) {i : Nat} (hi : i < l.length) : l[i] < 1000000000 := h _ (List.getElem_mem hi)
theorem Digs.take {l : List Nat} (h : Digs l) (k : Nat) : Digs (l.take k) := fun x hx => h x (List.mem_of_mem_take hx)
theorem Digs.drop {l : List Nat} (h : Digs l) (k : Nat) : Digs (l.drop k) := fun x hx => h x (List.mem_of_mem_drop hx)
theorem digs_nil : Digs [] := fun _ h => by cases h
theorem Digs.cons {d : Nat} {r : List Nat} (hd : d < 1000000000) (h : Digs r) : Digs (d :: r) := fun x hx => by
  rcases List.mem_cons.1 hx with rfl | hx
  · exact hd
  · exact h x hx
theorem nval_lt {l : List Nat} (h : Digs l) : nval l < 1000000000 ^ l.length := by
  induction l with
  | nil => simp [nval]
  | cons d r ih =>
    have h1 := ih h.tail
    have h2 := h.head
    simp only [nval, List.length_cons, Nat.pow_succ]
    omega
theorem nval_zeros (k : Nat) : nval (List.replicate k 0) = 0 := by
  induction k with
  | zero => rfl
  | succ k ih => simp [List.replicate_succ, nval, ih]

/-- The canonical digits of a number. -/
def dgF : Nat → Nat → List Nat
  | 0, _ => []
  | f + 1, n => if n = 0 then [] else n % 1000000000 :: dgF f (n / 1000000000)
def dg (n : Nat) : List Nat := dgF n n
theorem dgF_enough : ∀ (f g n : Nat), n ≤ f → n ≤ g → dgF f n = dgF g n := by
  intro f
  induction f with
  | zero =>
    intro g n h _
    obtain rfl : n = 0 := by omega
    cases g <;> simp [dgF]
  | succ f ih =>
    intro g n h1 h2
    cases g with
    | zero =>
      obtain rfl : n = 0 := by omega
      simp [dgF]
    | succ g =>
      simp only [dgF]
      split
      · rfl
      · rw [ih g _ (by omega) (by omega)]
theorem dg_zero : dg 0 = [] := rfl
theorem dg_pos {n : Nat} (h : n ≠ 0) : dg n = n % 1000000000 :: dg (n / 1000000000) := by
  obtain ⟨m, rfl⟩ : ∃ m, n = m + 1 := ⟨n - 1, by omega⟩
  show dgF (m + 1) (m + 1) = _
  simp only [dgF, if_neg h]
  rw [dgF_enough m ((m + 1) / 1000000000) _ (by omega) (Nat.le_refl _)]
  rfl
theorem nval_dg (n : Nat) : nval (dg n) = n := by
  induction n using Nat.strongRecOn with
  | _ n ih =>
    by_cases h : n = 0
    · subst h; rfl
    · rw [dg_pos h, nval, ih _ (by omega)]
      omega
theorem digs_dg (n : Nat) : Digs (dg n) := by
  induction n using Nat.strongRecOn with
  | _ n ih =>
    by_cases h : n = 0
    · subst h; exact digs_nil
    · rw [dg_pos h]
      exact Digs.cons (by omega) (ih _ (by omega))
theorem dg_cons {d n : Nat} (hd : d < 1000000000) (h : d ≠ 0 ∨ n ≠ 0) : dg (d + 1000000000 * n) = d :: dg n := by
  rw [dg_pos (by omega)]
  congr 1
  · omega
  · congr 1
    omega
/-- Digits without zeros at the end are the number's own. -/
theorem dg_of_canon {l : List Nat} (h : Canon l) : dg (nval l) = l := by
  induction l with
  | nil => rfl
  | cons d r ih =>
    have hr : Canon r := ⟨h.1.tail, fun hne => by have := h.2 (by simp); rwa [List.getLast_cons hne] at this⟩
    have h1 := ih hr
    rw [nval, dg_cons h.1.head, h1]
    by_cases hn : r = []
    · subst hn
      left
      exact h.2 (by simp)
    · right
      intro e
      rw [e] at h1
      exact hn h1.symm
theorem canon_dg (n : Nat) : Canon (dg n) := by
  refine ⟨digs_dg n, ?_⟩
  induction n using Nat.strongRecOn with
  | _ n ih =>
    intro hne
    by_cases h : n = 0
    · subst h; exact absurd rfl hne
    · have h1 := dg_pos h
      by_cases hq : n / 1000000000 = 0
      · have h2 : dg n = [n] := by rw [h1, hq, dg_zero, Nat.mod_eq_of_lt (by omega)]
        simp only [h2, List.getLast_singleton]
        exact h
      · have hne' : dg (n / 1000000000) ≠ [] := by rw [dg_pos hq]; simp
        have h3 := ih _ (by omega) hne'
        simp only [h1, List.getLast_cons hne']
        exact h3
/-- The number of digits. -/
def dl (n : Nat) : Nat := (dg n).length
theorem dl_zero : dl 0 = 0 := rfl
theorem lt_pow_dl (n : Nat) : n < 1000000000 ^ dl n := by
  have := nval_lt (digs_dg n)
  rwa [nval_dg] at this
theorem dl_le {n k : Nat} (h : n < 1000000000 ^ k) : dl n ≤ k := by
  induction k generalizing n with
  | zero => obtain rfl : n = 0 := by simpa using h
            simp [dl, dg_zero]
  | succ k ih =>
    by_cases h0 : n = 0
    · subst h0; simp [dl, dg_zero]
    · have h1 : dl n = dl (n / 1000000000) + 1 := by unfold dl; rw [dg_pos h0]; rfl
      have h2 := ih (n := n / 1000000000) (by rw [Nat.pow_succ] at h; omega)
      omega
theorem dl_mono {a b : Nat} (h : a ≤ b) : dl a ≤ dl b := dl_le (Nat.lt_of_le_of_lt h (lt_pow_dl b))
theorem dl_mul (a b : Nat) : dl (a * b) ≤ dl a + dl b := by
  refine dl_le ?_
  rw [Nat.pow_add]
  exact Nat.mul_lt_mul'' (lt_pow_dl a) (lt_pow_dl b)
theorem dl_add (a b : Nat) : dl (a + b) ≤ max (dl a) (dl b) + 1 := by
  refine dl_le ?_
  have h1 := lt_pow_dl a
  have h2 := lt_pow_dl b
  have h3 : 1000000000 ^ dl a ≤ 1000000000 ^ max (dl a) (dl b) := Nat.pow_le_pow_right (by omega) (Nat.le_max_left ..)
  have h4 : 1000000000 ^ dl b ≤ 1000000000 ^ max (dl a) (dl b) := Nat.pow_le_pow_right (by omega) (Nat.le_max_right ..)
  rw [Nat.pow_succ]
  omega
theorem dl_pos {n : Nat} (h : n ≠ 0) : 0 < dl n := by unfold dl; rw [dg_pos h]; simp
theorem dl_eq_zero {n : Nat} : dl n = 0 ↔ n = 0 := by
  constructor
  · intro h
    by_cases h0 : n = 0
    · exact h0
    · have := dl_pos h0; omega
  · rintro rfl; rfl
/-- Without zeros at its end a list's length is the number's. -/
theorem dl_nval {l : List Nat} (h : Canon l) : dl (nval l) = l.length := by unfold dl; rw [dg_of_canon h]
theorem pow_le_of_canon {l : List Nat} (h : Canon l) (hne : l ≠ []) : 1000000000 ^ (l.length - 1) ≤ nval l := by
  induction l with
  | nil => exact absurd rfl hne
  | cons d r ih =>
    by_cases hr : r = []
    · subst hr
      have := h.2 (by simp)
      simp [nval] at this ⊢
      omega
    · have hc : Canon r := ⟨h.1.tail, fun hn => by have := h.2 (by simp); rwa [List.getLast_cons hn] at this⟩
      have h1 := ih hc hr
      have h2 : 0 < r.length := List.length_pos_iff.2 hr
      simp only [List.length_cons, nval]
      obtain ⟨k, hk⟩ : ∃ k, r.length = k + 1 := ⟨r.length - 1, by omega⟩
      rw [hk] at h1 ⊢
      simp only [Nat.add_sub_cancel, Nat.pow_succ] at h1 ⊢
      omega
/-- Cutting zeros off. -/
theorem canon_take {l : List Nat} {j : Nat} (hd : Digs l) (hj : j ≤ l.length) (hz : ∀ i, j ≤ i → i < l.length → l.getD i 0 = 0) (hl : j = 0 ∨ l.getD (j - 1) 0 ≠ 0) :
    l.take j = dg (nval l) := by
  have h1 : nval (l.drop j) = 0 := by
    have h2 : l.drop j = List.replicate (l.length - j) 0 := by
      refine List.eq_replicate_iff.2 ⟨by simp, fun x hx => ?_⟩
      obtain ⟨i, hi, rfl⟩ := List.mem_iff_getElem.1 hx
      simp at hi
      have h3 := hz (j + i) (by omega) (by omega)
      simp [List.getD_eq_getElem?_getD, List.getElem?_eq_getElem (show j + i < l.length by omega)] at h3
      simpa using h3
    rw [h2, nval_zeros]
  have h2 : nval l = nval (l.take j) := by
    conv => lhs; rw [← List.take_append_drop j l]
    rw [nval_append, h1]
    omega
  rw [h2, dg_of_canon]
  refine ⟨hd.take j, fun hne => ?_⟩
  have hj0 : 0 < j := by
    rcases Nat.eq_zero_or_pos j with e | e
    · subst e; simp at hne
    · exact e
  rcases hl with hl | hl
  · omega
  · rw [List.getLast_eq_getElem]
    simp only [List.length_take, List.getElem_take]
    have e : min j l.length - 1 = j - 1 := by omega
    simp only [e]
    simpa [List.getD_eq_getElem?_getD, List.getElem?_eq_getElem (show j - 1 < l.length by omega)] using hl

theorem split_at (l : List Nat) {k : Nat} (hk : k < l.length) : nval l = nval (l.take k) + 1000000000 ^ k * (l.getD k 0 + 1000000000 * nval (l.drop (k + 1))) := by
  have h1 : l = l.take k ++ (l.getD k 0 :: l.drop (k + 1)) := by
    have : l.getD k 0 = l[k] := by simp [List.getD_eq_getElem?_getD, List.getElem?_eq_getElem hk]
    rw [this, List.getElem_cons_drop, List.take_append_drop]
  conv => lhs; rw [h1]
  rw [nval_append, nval, List.length_take, Nat.min_eq_left (by omega)]
theorem nval_lt_at {a b : List Nat} {k : Nat} (ha : Digs a) (hka : k < a.length) (hkb : k < b.length) (hd : a.drop (k + 1) = b.drop (k + 1)) (hlt : a.getD k 0 < b.getD k 0) : nval a < nval b := by
  rw [split_at a hka, split_at b hkb, hd]
  have h1 := nval_lt (ha.take k)
  rw [List.length_take, Nat.min_eq_left (by omega)] at h1
  have h2 : 1000000000 ^ k * (a.getD k 0 + 1000000000 * nval (b.drop (k + 1))) + 1000000000 ^ k ≤ 1000000000 ^ k * (b.getD k 0 + 1000000000 * nval (b.drop (k + 1))) := by
    rw [← Nat.mul_succ]
    exact Nat.mul_le_mul_left _ (by omega)
  omega
theorem nval_lt_len {a b : List Nat} (ha : Canon a) (hb : Canon b) (h : a.length < b.length) : nval a < nval b := by
  have h1 := nval_lt ha.1
  have h2 := pow_le_of_canon hb (by intro e; subst e; simp at h)
  have h3 : 1000000000 ^ a.length ≤ 1000000000 ^ (b.length - 1) := Nat.pow_le_pow_right (by omega) (by omega)
  omega
theorem drop_eq_step {a b : List Nat} {k : Nat} (hka : k < a.length) (hkb : k < b.length) (hd : a.drop (k + 1) = b.drop (k + 1)) (h : a.getD k 0 = b.getD k 0) : a.drop k = b.drop k := by
  have h1 : a.getD k 0 = a[k] := by simp [List.getD_eq_getElem?_getD, List.getElem?_eq_getElem hka]
  have h2 : b.getD k 0 = b[k] := by simp [List.getD_eq_getElem?_getD, List.getElem?_eq_getElem hkb]
  rw [← List.getElem_cons_drop hka, ← List.getElem_cons_drop hkb, hd, ← h1, ← h2, h]
/-- The sign of c is that of a - b. -/
def CmpOk (c : Int) (a b : Nat) : Prop := (c < 0 ↔ a < b) ∧ (0 < c ↔ b < a)
theorem Digs.getD {l : List Nat} (h : Digs l) (m : Nat) : l.getD m 0 < 1000000000 := by
  rw [List.getD_eq_getElem?_getD]
  cases hm : l[m]? with
  | none => simp
  | some d => exact h d (List.mem_of_getElem? hm)
theorem dg_lt (n m : Nat) : (dg n).getD m 0 < 1000000000 := (digs_dg n).getD m

/-- x 0 + x 1 B + .. + x (n - 1) B^(n - 1) -/
def psum (x : Nat → Int) : Nat → Int
  | 0 => 0
  | n + 1 => psum x n + 1000000000 ^ n * x n
theorem psum_congr {x y : Nat → Int} : ∀ {n : Nat}, (∀ i, i < n → x i = y i) → psum x n = psum y n := by
  intro n
  induction n with
  | zero => intro _; rfl
  | succ n ih => intro h; simp only [psum, ih fun i hi => h i (by omega), h n (by omega)]
theorem psum_add (x y : Nat → Int) (n : Nat) : psum (fun i => x i + y i) n = psum x n + psum y n := by
  induction n with
  | zero => rfl
  | succ n ih => simp only [psum, ih, Int.mul_add]; omega
theorem psum_sub (x y : Nat → Int) (n : Nat) : psum (fun i => x i - y i) n = psum x n - psum y n := by
  induction n with
  | zero => rfl
  | succ n ih => simp only [psum, ih, Int.mul_sub]; omega
theorem psum_mul (x : Nat → Int) (c : Int) (n : Nat) : psum (fun i => x i * c) n = psum x n * c := by
  induction n with
  | zero => simp [psum]
  | succ n ih => simp only [psum, ih, Int.add_mul, Int.mul_assoc]
theorem psum_take (l : List Nat) : ∀ n, psum (fun i => (l.getD i 0 : Int)) n = (nval (l.take n) : Int) := by
  intro n
  induction n with
  | zero => rfl
  | succ n ih =>
    simp only [psum, ih]
    by_cases h : n < l.length
    · rw [List.take_succ_eq_append_getElem h, nval_append, List.length_take, Nat.min_eq_left (by omega)]
      have : l.getD n 0 = l[n] := by simp [List.getD_eq_getElem?_getD, List.getElem?_eq_getElem h]
      rw [this]
      simp only [nval, Nat.mul_zero, Nat.add_zero, Int.natCast_add, Int.natCast_mul, Int.natCast_pow]
      rfl
    · rw [List.take_of_length_le (by omega), List.take_of_length_le (by omega)]
      simp [List.getD_eq_getElem?_getD, List.getElem?_eq_none (show l.length ≤ n by omega)]
theorem psum_dg {a n : Nat} (h : dl a ≤ n) : psum (fun i => ((dg a).getD i 0 : Int)) n = a := by
  rw [psum_take, List.take_of_length_le h, nval_dg]
/-- Go's division and rest, mended, are the floor's. -/
theorem floor_neg {x : Int} (h : x.tmod 1000000000 < 0) : x.tmod 1000000000 + 1000000000 = x % 1000000000 ∧ x.tdiv 1000000000 - 1 = x / 1000000000 := by
  rcases Int.le_total 0 x with h0 | h0
  · rw [Int.tmod_eq_emod_of_nonneg h0] at h; omega
  · obtain ⟨y, rfl⟩ : ∃ y : Int, x = -y := ⟨-x, by omega⟩
    rw [Int.neg_tmod, Int.tmod_eq_emod_of_nonneg (by omega)] at h ⊢
    rw [Int.neg_tdiv, Int.tdiv_eq_ediv_of_nonneg (by omega)]
    omega
theorem floor_pos {x : Int} (h : ¬ x.tmod 1000000000 < 0) : x.tmod 1000000000 = x % 1000000000 ∧ x.tdiv 1000000000 = x / 1000000000 := by
  rcases Int.le_total 0 x with h0 | h0
  · rw [Int.tmod_eq_emod_of_nonneg h0, Int.tdiv_eq_ediv_of_nonneg h0]; exact ⟨rfl, rfl⟩
  · obtain ⟨y, rfl⟩ : ∃ y : Int, x = -y := ⟨-x, by omega⟩
    rw [Int.neg_tmod, Int.tmod_eq_emod_of_nonneg (by omega)] at h ⊢
    rw [Int.neg_tdiv, Int.tdiv_eq_ediv_of_nonneg (by omega)]
    omega
/-- One round of carrying. -/
theorem carry_step {v : Nat} {p : Int} {i : Nat} {c x : Int} (h : (v : Int) + 1000000000 ^ i * c = p) :
    ((v + 1000000000 ^ i * ((c + x) % 1000000000).toNat : Nat) : Int) + 1000000000 ^ (i + 1) * ((c + x) / 1000000000) = p + 1000000000 ^ i * x := by
  have h1 : ((c + x) % 1000000000).toNat = (c + x) % 1000000000 := Int.toNat_of_nonneg (by omega)
  have h2 : (c + x) % 1000000000 + 1000000000 * ((c + x) / 1000000000) = c + x := by omega
  have h3 : (1000000000 : Int) ^ i * ((c + x) % 1000000000) + 1000000000 ^ i * (1000000000 * ((c + x) / 1000000000)) = 1000000000 ^ i * c + 1000000000 ^ i * x := by
    rw [← Int.mul_add, h2, Int.mul_add]
  rw [Int.natCast_add, Int.natCast_mul, h1, Int.natCast_pow, Int.pow_succ, Int.mul_assoc]
  have h4 : ((1000000000 : Nat) : Int) = 1000000000 := rfl
  rw [h4]
  omega
theorem nval_set (l : List Nat) (d : Nat) : ∀ {k : Nat}, k < l.length → nval (l.set k d) + 1000000000 ^ k * l.getD k 0 = nval l + 1000000000 ^ k * d := by
  induction l with
  | nil => intro k hk; simp at hk
  | cons c r ih =>
    intro k hk
    cases k with
    | zero => simp [nval]; omega
    | succ k =>
      have := ih (k := k) (by simpa using hk)
      simp only [List.set_cons_succ, nval, List.getD_cons_succ, Nat.pow_succ]
      have e1 : 1000000000 ^ k * 1000000000 * r.getD k 0 = 1000000000 * (1000000000 ^ k * r.getD k 0) := by rw [Nat.mul_comm (1000000000 ^ k), Nat.mul_assoc]
      have e2 : 1000000000 ^ k * 1000000000 * d = 1000000000 * (1000000000 ^ k * d) := by rw [Nat.mul_comm (1000000000 ^ k), Nat.mul_assoc]
      rw [e1, e2]
      omega
theorem Digs.set {l : List Nat} (h : Digs l) {d : Nat} (hd : d < 1000000000) (k : Nat) : Digs (l.set k d) := fun x hx => by
  rcases List.mem_or_eq_of_mem_set hx with h1 | h1
  · exact h x h1
  · omega
theorem getD_set_self {l : List Nat} {k d : Nat} (h : k < l.length) : (l.set k d).getD k 0 = d := by simp [List.getD_eq_getElem?_getD, h]
theorem getD_set_other {l : List Nat} {k j d : Nat} (h : j ≠ k) : (l.set k d).getD j 0 = l.getD j 0 := by simp [List.getD_eq_getElem?_getD, List.getElem?_set_ne (Ne.symm h)]
/-- One step of long multiplication. -/
theorem mul_step {o : List Nat} {k c m p : Nat} (hk : k < o.length) (h : nval o + 1000000000 ^ k * c = p) :
    nval (o.set k ((m + o.getD k 0 + c) % 1000000000)) + 1000000000 ^ (k + 1) * ((m + o.getD k 0 + c) / 1000000000) = p + 1000000000 ^ k * m := by
  have h1 := nval_set o ((m + o.getD k 0 + c) % 1000000000) hk
  have h2 : (m + o.getD k 0 + c) % 1000000000 + 1000000000 * ((m + o.getD k 0 + c) / 1000000000) = m + o.getD k 0 + c := by omega
  have h3 : 1000000000 ^ k * ((m + o.getD k 0 + c) % 1000000000) + 1000000000 ^ k * (1000000000 * ((m + o.getD k 0 + c) / 1000000000)) = 1000000000 ^ k * m + 1000000000 ^ k * o.getD k 0 + 1000000000 ^ k * c := by
    rw [← Nat.mul_add, h2, Nat.mul_add, Nat.mul_add]
  rw [Nat.pow_succ, Nat.mul_assoc]
  omega
theorem nval_take_succ {l : List Nat} {i : Nat} (h : i < l.length) : nval (l.take (i + 1)) = nval (l.take i) + 1000000000 ^ i * l.getD i 0 := by
  rw [List.take_succ_eq_append_getElem h, nval_append, List.length_take, Nat.min_eq_left (by omega)]
  simp [nval, List.getD_eq_getElem?_getD, List.getElem?_eq_getElem h]
end Go.Proofs.YtpmnjjmngogkkaaGreatDoor
