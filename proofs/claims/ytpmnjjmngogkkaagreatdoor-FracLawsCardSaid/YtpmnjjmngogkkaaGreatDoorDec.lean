/- Plain arithmetic: decimal numerals. No program in sight. -/
import Derived.Test.YtpmnjjmngogkkaaGreatDoorNum
import Derived.Lib.ItoaNum
set_option linter.unusedVariables false
namespace Go.Proofs.YtpmnjjmngogkkaaGreatDoor
open Go

/-- The k lowest decimal digits, the lowest first. -/
def low : Nat → Nat → List UInt8
  | 0, _ => []
  | k + 1, v => UInt8.ofNat (48 + v % 10) :: low k (v / 10)
theorem low_length (k v : Nat) : (low k v).length = k := by
  induction k generalizing v with
  | zero => rfl
  | succ k ih => simp [low, ih]
theorem low_append (j k v : Nat) : low (j + k) v = low j v ++ low k (v / 10 ^ j) := by
  induction j generalizing v with
  | zero => simp [low]
  | succ j ih =>
    rw [show j + 1 + k = (j + k) + 1 by omega, low, ih, low, List.cons_append, Nat.div_div_eq_div_mul, Nat.pow_succ, Nat.mul_comm (10 ^ j)]
theorem low_mod (k v : Nat) : low k (v % 10 ^ k) = low k v := by
  induction k generalizing v with
  | zero => rfl
  | succ k ih =>
    have h1 : v % 10 ^ (k + 1) % 10 = v % 10 := Nat.mod_mod_of_dvd _ ⟨10 ^ k, by rw [Nat.pow_succ, Nat.mul_comm]⟩
    have h2 : v % 10 ^ (k + 1) / 10 = v / 10 % 10 ^ k := by
      rw [Nat.pow_succ, Nat.mul_comm, Nat.mod_mul_right_div_self]
    rw [low, low, h1, h2, ih]
theorem low_zero (k : Nat) : low k 0 = List.replicate k 48 := by
  induction k with
  | zero => rfl
  | succ k ih => simp [low, ih, List.replicate_succ]
theorem dec_low (u : Nat) : (Lib.decDigits u).reverse = low (Lib.nDigits u) u := by
  induction u using Nat.strongRecOn with
  | _ u ih =>
    rw [Lib.decDigits, Lib.nDigits]
    by_cases h : u < 10
    · simp [dif_pos h, low, Nat.mod_eq_of_lt h]
    · simp only [dif_neg h, List.reverse_append, List.reverse_cons, List.reverse_nil, List.nil_append, List.cons_append, low]
      rw [ih (u / 10) (by omega)]
theorem low_pad {u k : Nat} (h : Lib.nDigits u ≤ k) : low k u = (Lib.decDigits u).reverse ++ List.replicate (k - Lib.nDigits u) 48 := by
  obtain ⟨j, rfl⟩ : ∃ j, k = Lib.nDigits u + j := ⟨k - Lib.nDigits u, by omega⟩
  rw [low_append, dec_low, Nat.div_eq_of_lt (Lib.lt_pow_nDigits u), low_zero, Nat.add_sub_cancel_left]
/-- More digits in front. -/
theorem dec_step {a b k : Nat} (ha : 0 < a) (hb : b < 10 ^ k) : Lib.decDigits (a * 10 ^ k + b) = Lib.decDigits a ++ (low k b).reverse := by
  induction k generalizing b with
  | zero =>
    obtain rfl : b = 0 := by simpa using hb
    simp [low]
  | succ k ih =>
    have hp : 0 < 10 ^ k := Nat.pow_pos (by decide)
    have h0 : a * 10 ^ k * 10 = a * 10 ^ (k + 1) := by rw [Nat.pow_succ, Nat.mul_assoc]
    have h1 : 10 ^ k ≤ a * 10 ^ k := Nat.le_mul_of_pos_left _ ha
    have h2 : (a * 10 ^ (k + 1) + b) / 10 = a * 10 ^ k + b / 10 := by omega
    have h3 : (a * 10 ^ (k + 1) + b) % 10 = b % 10 := by omega
    rw [Lib.decDigits, dif_neg (by omega), h2, h3, ih (by rw [Nat.pow_succ] at hb; omega), low]
    simp
theorem nDigits_le {u k : Nat} (hk : 0 < k) (h : u < 10 ^ k) : Lib.nDigits u ≤ k := by
  induction k generalizing u with
  | zero => omega
  | succ k ih =>
    by_cases h1 : u < 10
    · rw [Lib.nDigits_small h1]; omega
    · rw [Lib.nDigits_big h1]
      rw [Nat.pow_succ] at h
      rcases Nat.eq_zero_or_pos k with e | e
      · subst e; simp at h; omega
      · have := ih (u := u / 10) e (by omega)
        omega
/-- A limb, with zeros ahead. -/
theorem pad9 {b : Nat} (hb : b < 1000000000) : (low 9 b).reverse = List.replicate (9 - Lib.nDigits b) 48 ++ Lib.decDigits b := by
  rw [low_pad (nDigits_le (by omega) (by omega : b < 10 ^ 9))]
  simp
theorem dec_limb {a b : Nat} (ha : 0 < a) (hb : b < 1000000000) : Lib.decDigits (b + 1000000000 * a) = Lib.decDigits a ++ (List.replicate (9 - Lib.nDigits b) 48 ++ Lib.decDigits b) := by
  rw [← pad9 hb, ← dec_step ha (by omega : b < 10 ^ 9)]
  congr 1
  omega
theorem nDigits_limb {b : Nat} (hb : b < 1000000000) : Lib.nDigits b ≤ 9 := nDigits_le (by omega) (by omega : b < 10 ^ 9)
theorem pow_nine (k : Nat) : 1000000000 ^ k = 10 ^ (9 * k) := by rw [Nat.pow_mul]
theorem nDigits_dl {n : Nat} (h : 0 < n) : Lib.nDigits n ≤ 9 * dl n := by
  have h1 := lt_pow_dl n
  rw [pow_nine] at h1
  have := dl_pos (n := n) (by omega)
  exact nDigits_le (by omega) h1
theorem dl_nDigits {n : Nat} (h : 0 < n) : 9 * (dl n - 1) < Lib.nDigits n := by
  have hc := canon_dg n
  have hp := dl_pos (n := n) (by omega)
  have h1 := pow_le_of_canon hc (by intro e; unfold dl at hp; rw [e] at hp; simp at hp)
  rw [nval_dg, pow_nine] at h1
  have h2 := Lib.lt_pow_nDigits n
  have h3 : 10 ^ (9 * ((dg n).length - 1)) < 10 ^ Lib.nDigits n := by omega
  exact (Nat.pow_lt_pow_iff_right (by omega)).1 h3
/-- The digit at a place. -/
theorem low_get {k v i : Nat} (h : i < k) : (low k v)[i]? = some (UInt8.ofNat (48 + v / 10 ^ i % 10)) := by
  induction k generalizing v i with
  | zero => omega
  | succ k ih =>
    cases i with
    | zero => simp [low]
    | succ i => rw [low, List.getElem?_cons_succ, ih (by omega), Nat.div_div_eq_div_mul, Nat.pow_succ, Nat.mul_comm 10]
theorem low_succ (k v : Nat) : low (k + 1) v = low k v ++ [UInt8.ofNat (48 + v / 10 ^ k % 10)] := by
  rw [low_append]
  rfl
theorem high_digit {n : Nat} (h : 0 < n) : n / 10 ^ (Lib.nDigits n - 1) % 10 ≠ 0 := by
  induction n using Nat.strongRecOn with
  | _ n ih =>
    by_cases h1 : n < 10
    · rw [Lib.nDigits_small h1]; simp; omega
    · have h2 := ih (n / 10) (by omega) (by omega)
      have h3 := Lib.nDigits_pos (n / 10)
      rw [Lib.nDigits_big h1, Nat.add_sub_cancel]
      obtain ⟨j, hj⟩ : ∃ j, Lib.nDigits (n / 10) = j + 1 := ⟨Lib.nDigits (n / 10) - 1, by omega⟩
      rw [hj] at h2 ⊢
      rw [Nat.add_sub_cancel] at h2
      rw [Nat.pow_succ, Nat.mul_comm, ← Nat.div_div_eq_div_mul]
      exact h2
theorem digit_above {n k : Nat} (h : Lib.nDigits n ≤ k) : n / 10 ^ k % 10 = 0 := by
  have h1 := Lib.lt_pow_nDigits n
  have h2 : 10 ^ Lib.nDigits n ≤ 10 ^ k := Nat.pow_le_pow_right (by omega) h
  rw [Nat.div_eq_of_lt (by omega)]
/-- A limb is nine decimal digits. -/
theorem dg_digit (n : Nat) : ∀ i, (dg n).getD i 0 = n / 1000000000 ^ i % 1000000000 := by
  induction n using Nat.strongRecOn with
  | _ n ih =>
    intro i
    by_cases h : n = 0
    · subst h; simp [dg_zero]
    · rw [dg_pos h]
      cases i with
      | zero => simp
      | succ i => rw [List.getD_cons_succ, ih _ (by omega), Nat.div_div_eq_div_mul, Nat.pow_succ, Nat.mul_comm 1000000000]
theorem low_limb (n i : Nat) : low (9 * (i + 1)) n = low (9 * i) n ++ low 9 ((dg n).getD i 0) := by
  rw [Nat.mul_add, low_append, dg_digit, ← pow_nine]
  congr 1
  exact (low_mod 9 _).symm
end Go.Proofs.YtpmnjjmngogkkaaGreatDoor
