/- What is known of memory: relations between worlds, whole blocks, rows of cells behind a slice. It holds for every program. -/
import Derived.Test.YtpmnjjmngogkkaaGreatDoorFrame
set_option linter.unusedVariables false
set_option linter.unusedSimpArgs false
namespace Go.Proofs.YtpmnjjmngogkkaaGreatDoor
open Go Go.RowKit

/-- From w to w' the blocks of S are as they were; nothing else is known of the others. -/
structure Keeps (S : Nat → Prop) (w w' : World) : Prop where
  os : w'.os = w.os
  tape : w'.tape = w.tape
  output : w'.output = w.output
  size : w.heap.size ≤ w'.heap.size
  block : ∀ k, k < w.heap.size → S k → w'.heap[k]? = w.heap[k]?
def All : Nat → Prop := fun _ => True
abbrev Ext (w w' : World) : Prop := Keeps All w w'
abbrev Wrt (b : Nat) (w w' : World) : Prop := Keeps (fun k => k ≠ b) w w'

theorem Keeps.refl {S : Nat → Prop} {w : World} : Keeps S w w := ⟨rfl, rfl, rfl, Nat.le_refl _, fun _ _ _ => rfl⟩
theorem Keeps.trans {S : Nat → Prop} {w w1 w2 : World} (h : Keeps S w w1) (k : Keeps S w1 w2) : Keeps S w w2 :=
  ⟨k.os.trans h.os, k.tape.trans h.tape, k.output.trans h.output, Nat.le_trans h.size k.size, fun i hi hs => (k.block i (Nat.lt_of_lt_of_le hi h.size) hs).trans (h.block i hi hs)⟩
theorem Keeps.mono {S S' : Nat → Prop} {w w' : World} (h : Keeps S w w') (hs : ∀ k, S' k → S k) : Keeps S' w w' :=
  ⟨h.os, h.tape, h.output, h.size, fun i hi hk => h.block i hi (hs i hk)⟩
theorem Keeps.of {S : Nat → Prop} {w w' : World} (h : Ext w w') : Keeps S w w' := h.mono fun _ _ => trivial
/-- What was made later may be written. -/
theorem Keeps.later {S S' : Nat → Prop} {w w1 w2 : World} (h : Ext w w1) (k : Keeps S' w1 w2) (hs : ∀ i, i < w.heap.size → S i → S' i) : Keeps S w w2 :=
  ⟨k.os.trans h.os, k.tape.trans h.tape, k.output.trans h.output, Nat.le_trans h.size k.size,
    fun i hi hk => (k.block i (Nat.lt_of_lt_of_le hi h.size) (hs i hi hk)).trans (h.block i hi trivial)⟩
theorem Keeps.below {w w' : World} (h : Ext w w') : Below w.heap.size w w' := ⟨h.os, h.tape, h.output, h.size, fun k hk => h.block k hk trivial⟩
theorem Keeps.of_below {w w' : World} (h : Below w.heap.size w w') : Ext w w' := ⟨h.os, h.tape, h.output, h.size, fun k hk _ => h.block k hk⟩
theorem ext_alloc (w : World) (o : Obj) : Ext w (w.alloc o) := ⟨rfl, rfl, rfl, by simp, fun k hk _ => Below.heap_alloc w o k hk⟩
theorem ext_drew (w : World) : Ext w w.drew := ⟨rfl, rfl, rfl, Nat.le_refl _, fun _ _ _ => rfl⟩
theorem wrt_setCell (w : World) (a : Addr) (v : Value) : Wrt a.block w (w.setCell a v) :=
  ⟨rfl, rfl, rfl, by simp [World.setCell], fun k _ hk => Below.heap_setCell w a v k hk⟩

/-- New blocks are in S. -/
def Up (S : Nat → Prop) (w : World) : Prop := ∀ k, w.heap.size ≤ k → S k
theorem Up.to {S S' : Nat → Prop} {w w' : World} (h : Up S w) (k : Keeps S' w w') : Up S w' := fun i hi => h i (Nat.le_trans k.size hi)
theorem Up.all {w : World} : Up All w := fun _ _ => trivial

/-- A block, whole. -/
def Blk (w : World) (b : Nat) (T : TypeId) (cs : List Value) : Prop := w.heap[b]? = some (.cells cs.toArray T (0, 0))
theorem Blk.lt {w : World} {b : Nat} {T : TypeId} {cs : List Value} (h : Blk w b T cs) : b < w.heap.size := (Array.getElem?_eq_some_iff.1 h).1
theorem Blk.keep {S : Nat → Prop} {w w' : World} {b : Nat} {T : TypeId} {cs : List Value} (h : Blk w b T cs) (k : Keeps S w w') (hs : S b) : Blk w' b T cs := (k.block b h.lt hs).trans h
theorem Blk.to {w w' : World} {b : Nat} {T : TypeId} {cs : List Value} (h : Blk w b T cs) (k : Ext w w') : Blk w' b T cs := h.keep k trivial
theorem Blk.new (w : World) (T : TypeId) (cs : List Value) : Blk (w.alloc (.cells cs.toArray T)) w.heap.size T cs := heap_alloc_new w _
theorem Blk.ne {w : World} {b b' : Nat} {T T' : TypeId} {cs cs' : List Value} (h : Blk w b T cs) (h' : Blk w b' T' cs') (hT : T ≠ T') : b ≠ b' := by
  intro e
  subst e
  unfold Blk at h h'
  rw [h] at h'
  simp at h'
  exact hT h'.2
theorem Blk.ne_new {w : World} {b b' : Nat} {T : TypeId} {cs : List Value} (h : Blk w b T cs) (hb : w.heap.size ≤ b') : b ≠ b' := by
  have := h.lt
  omega
theorem Blk.wr {w w' : World} {b b' : Nat} {T : TypeId} {cs : List Value} (h : Blk w b T cs) (k : Wrt b' w w') (hne : b ≠ b') : Blk w' b T cs := h.keep k hne
theorem Blk.cell {w : World} {b i : Nat} {T : TypeId} {cs : List Value} {v : Value} (h : Blk w b T cs) (hi : cs[i]? = some v) : w.cell? ⟨b, i, none⟩ = some v := by
  unfold Blk at h
  simp [World.cell?, h, hi]
theorem Blk.free {w : World} {b i : Nat} {T : TypeId} {cs : List Value} (h : Blk w b T cs) : w.frozen? ⟨b, i, none⟩ = false := by
  unfold Blk at h
  simp [World.frozen?, h]
theorem Blk.set {w : World} {b i : Nat} {T : TypeId} {cs : List Value} (h : Blk w b T cs) (v : Value) : Blk (w.setCell ⟨b, i, none⟩ v) b T (cs.set i v) := by
  unfold Blk at *
  simp [World.setCell, Array.getElem?_modify, h]

/-- The address of a slice's cell. -/
def adr (v : Value) (i : Nat) : Addr := match v with
  | .slice (some a) _ _ => ⟨a.block, a.off + i, none⟩
  | _ => ⟨0, i, none⟩
def vlen (v : Value) : Nat := match v with | .slice _ n _ => n | _ => 0

/-- v is a slice of n elements of s cells each; cs are its cells, which lie in a block of S. -/
def Row (S : Nat → Prop) (T : TypeId) (s : Nat) (w : World) (v : Value) (n : Nat) (cs : List Value) : Prop :=
  cs.length = n * s ∧ ((v = .slice none 0 0 ∧ n = 0) ∨
    ∃ b off cap arr fr, v = .slice (some ⟨b, off, none⟩) n cap ∧ n ≤ cap ∧ cap ≤ maxLen ∧ S b ∧ w.heap[b]? = some (.cells arr T fr) ∧ off + cap * s ≤ arr.size ∧ (arr.toList.drop off).take (n * s) = cs)

section
variable {S : Nat → Prop} {T : TypeId} {s : Nat} {w w' : World} {v : Value} {n : Nat} {cs : List Value}
theorem Row.keep (h : Row S T s w v n cs) (k : Keeps S w w') : Row S T s w' v n cs := by
  refine ⟨h.1, ?_⟩
  rcases h.2 with h2 | ⟨b, off, cap, arr, fr, hv, h1, h2, hs, hb, h3, h4⟩
  · exact .inl h2
  · exact .inr ⟨b, off, cap, arr, fr, hv, h1, h2, hs, (k.block b (Array.getElem?_eq_some_iff.1 hb).1 hs).trans hb, h3, h4⟩
theorem Row.to (h : Row S T s w v n cs) (k : Ext w w') : Row S T s w' v n cs := h.keep (.of k)
theorem Row.mono {S' : Nat → Prop} (h : Row S T s w v n cs) (hs : ∀ k, k < w.heap.size → S k → S' k) : Row S' T s w v n cs := by
  refine ⟨h.1, ?_⟩
  rcases h.2 with h2 | ⟨b, off, cap, arr, fr, hv, h1, h2, hb, hg, h3, h4⟩
  · exact .inl h2
  · exact .inr ⟨b, off, cap, arr, fr, hv, h1, h2, hs b (Array.getElem?_eq_some_iff.1 hg).1 hb, hg, h3, h4⟩
/-- Behind a write into a block of another type. -/
theorem Row.wrT {b : Nat} {T' : TypeId} {ds : List Value} (h : Row S T s w v n cs) (k : Wrt b w w') (hb : Blk w b T' ds) (hT : T' ≠ T) : Row S T s w' v n cs := by
  refine ⟨h.1, ?_⟩
  rcases h.2 with h2 | ⟨b', off, cap, arr, fr, hv, h1, h2, hs, hg, h3, h4⟩
  · exact .inl h2
  · refine .inr ⟨b', off, cap, arr, fr, hv, h1, h2, hs, (k.block b' (Array.getElem?_eq_some_iff.1 hg).1 ?_).trans hg, h3, h4⟩
    intro e
    subst e
    unfold Blk at hb
    rw [hg] at hb
    simp at hb
    exact hT hb.2.1.symm
theorem Row.wr {b : Nat} (h : Row S T s w v n cs) (k : Wrt b w w') (hb : ¬ S b) : Row S T s w' v n cs :=
  h.keep (k.mono fun i hi e => hb (e ▸ hi))
theorem Row.nil : Row S T s w (.slice none 0 0) 0 [] := ⟨by simp, .inl ⟨rfl, rfl⟩⟩
theorem Row.len_le (h : Row S T s w v n cs) : n ≤ maxLen := by
  rcases h.2 with ⟨_, h2⟩ | ⟨b, off, cap, arr, fr, hv, h1, h2, _⟩
  · omega
  · omega
theorem Row.length (h : Row S T s w v n cs) : cs.length = n * s := h.1
theorem Row.slice (h : Row S T s w v n cs) : ∃ a cap, v = .slice a n cap ∧ n ≤ cap := by
  rcases h.2 with ⟨h1, h2⟩ | ⟨b, off, cap, arr, fr, hv, h1, h2, _⟩
  · exact ⟨none, 0, by rw [h1, h2], by omega⟩
  · exact ⟨_, cap, hv, h1⟩
theorem Row.cell (h : Row S T s w v n cs) {i : Nat} {u : Value} (hu : cs[i]? = some u) : w.cell? (adr v i) = some u := by
  rcases h.2 with ⟨h1, h2⟩ | ⟨b, off, cap, arr, fr, hv, h1, h2, _, hg, h3, h4⟩
  · subst h2
    have := h.1
    simp at this
    subst this
    simp at hu
  · subst hv
    show w.cell? ⟨b, off + i, none⟩ = some u
    simp only [World.cell?, hg]
    rw [← h4, List.getElem?_take] at hu
    split at hu
    · simpa using hu
    · cases hu
/-- A part of a row; the capacity is cut. -/
theorem Row.cut3 (h : Row S T s w v n cs) (m : Nat) (hm : m ≤ n) : ∃ a cap, v = .slice a n cap ∧ n ≤ cap ∧ Row S T s w (.slice a m m) m (cs.take (m * s)) := by
  have hmul : m * s ≤ n * s := Nat.mul_le_mul_right _ hm
  rcases h.2 with ⟨h1, h2⟩ | ⟨b, off, cap, arr, fr, hv, h1, h2, hs, hg, h3, h4⟩
  · subst h2
    obtain rfl : m = 0 := by omega
    exact ⟨none, 0, h1, Nat.le_refl _, by simp, .inl ⟨rfl, rfl⟩⟩
  · refine ⟨_, cap, hv, h1, by rw [List.length_take, h.1]; omega, .inr ⟨b, off, m, arr, fr, rfl, Nat.le_refl _, by omega, hs, hg, ?_, ?_⟩⟩
    · have : m * s ≤ cap * s := Nat.mul_le_mul_right _ (by omega)
      omega
    · rw [← h4, List.take_take]
      congr 1
      omega
/-- A part of a row: v[lo:hi]. -/
theorem Row.cut (h : Row S T s w v n cs) (lo hi : Nat) (h0 : lo ≤ hi) (hn : hi ≤ n) : ∃ a cap, v = .slice a n cap ∧ n ≤ cap ∧
    Row S T s w (sliced a lo hi cap s) (hi - lo) ((cs.drop (lo * s)).take ((hi - lo) * s)) := by
  rcases h.2 with ⟨h1, h2⟩ | ⟨b, off, cap, arr, fr, hv, h1, h2, hs, hg, h3, h4⟩
  · subst h2
    obtain rfl : lo = 0 := by omega
    obtain rfl : hi = 0 := by omega
    exact ⟨none, 0, h1, Nat.le_refl _, by simp, .inl ⟨by simp [sliced], rfl⟩⟩
  · have e1 : lo * s + (hi - lo) * s = hi * s := by rw [← Nat.add_mul]; congr 1; omega
    have e2 : hi * s ≤ n * s := Nat.mul_le_mul_right _ hn
    have e3 : lo * s + (cap - lo) * s = cap * s := by rw [← Nat.add_mul]; congr 1; omega
    refine ⟨_, cap, hv, h1, by rw [List.length_take, List.length_drop, h.1]; omega, ?_⟩
    by_cases e : cap = lo
    · subst e
      obtain rfl : hi = cap := by omega
      refine .inr ⟨b, off, 0, arr, fr, ?_, by omega, by omega, hs, hg, by omega, by simp⟩
      simp [sliced]
    · refine .inr ⟨b, off + lo * s, cap - lo, arr, fr, ?_, by omega, by omega, hs, hg, by omega, ?_⟩
      · simp only [sliced, if_neg e, Option.map_some]
        congr 2
        unfold Addr.add
        by_cases e0 : lo * s = 0
        · rw [if_pos e0, e0]; rfl
        · rw [if_neg e0]
      · rw [← h4]
        rw [List.drop_take, List.drop_drop, List.take_take]
        congr 1
        omega
/-- A row in a block that is known whole. -/
theorem Row.of_blk {b cap : Nat} {ds : List Value} (hb : Blk w b T ds) (hS : S b) (hn : n ≤ cap) (hm : cap ≤ maxLen) (hl : cap * s = ds.length) :
    Row S T s w (.slice (some ⟨b, 0, none⟩) n cap) n (ds.take (n * s)) := by
  have : n * s ≤ cap * s := Nat.mul_le_mul_right _ hn
  refine ⟨by rw [List.length_take]; omega, .inr ⟨b, 0, cap, ds.toArray, (0, 0), rfl, hn, hm, hS, hb, by simp; omega, by simp⟩⟩
/-- A row that the call owns is a row. -/
theorem Row.of_own {base : Nat} (h : w.ownsRow base T s v n cs) (hS : ∀ k, base ≤ k → S k) : Row S T s w v n cs := by
  refine ⟨h.1, ?_⟩
  rcases h.2 with h2 | ⟨g, cap, cur, hv, hg, hh, hn, hm, hc, ht⟩
  · exact .inl h2
  · exact .inr ⟨g, 0, cap, cur, (0, 0), hv, hn, hm, hS g hg, hh, by omega, by simpa using ht⟩
end
theorem Keeps.of_grown {w w' : World} {r : Option Nat} (h : w.grownBy w' r) : Keeps (fun k => some k ≠ r) w w' :=
  ⟨h.os, h.tape, h.output, h.size, fun k hk hr => h.block k hk hr⟩
end Go.Proofs.YtpmnjjmngogkkaaGreatDoor
