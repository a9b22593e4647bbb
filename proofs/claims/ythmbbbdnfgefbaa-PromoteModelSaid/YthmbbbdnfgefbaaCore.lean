/- WORDS FOR MEMORY: what stays outside a set of blocks ('Fr'); the wheel of layer 9 as it lies in memory. -/
import Derived.WalkKit
import Derived.WalkSpells
import Derived.WalkLawsBesides
import Derived.Lib.Hide
import Derived.Deep.AppendLies
namespace Go.Proofs.Ythmbbbdnfgefbaa
open Go.RowKit

/-- Outside the blocks S, and of what was there, nothing has turned. -/
structure Fr (S : Nat → Prop) (w w' : World) : Prop where
  os : w'.os = w.os
  tape : w'.tape = w.tape
  output : w'.output = w.output
  size : w.heap.size ≤ w'.heap.size
  block : ∀ k, k < w.heap.size → ¬ S k → w'.heap[k]? = w.heap[k]?

theorem Fr.refl (S : Nat → Prop) (w : World) : Fr S w w := ⟨rfl, rfl, rfl, Nat.le_refl _, fun _ _ _ => rfl⟩
theorem Fr.trans {S T U : Nat → Prop} {a b c : World} (h : Fr S a b) (k : Fr T b c) (hS : ∀ i, i < a.heap.size → S i → U i) (hT : ∀ i, i < a.heap.size → T i → U i) : Fr U a c :=
  ⟨k.os.trans h.os, k.tape.trans h.tape, k.output.trans h.output, Nat.le_trans h.size k.size, fun i hi hu =>
    (k.block i (Nat.lt_of_lt_of_le hi h.size) (fun ht => hu (hT i hi ht))).trans (h.block i hi (fun hs => hu (hS i hi hs)))⟩
theorem Fr.below {S : Nat → Prop} {w w' : World} {B : Nat} (h : Fr S w w') (hS : ∀ i, i < w.heap.size → S i → B ≤ i) (hB : B ≤ w.heap.size) : Below B w w' :=
  ⟨h.os, h.tape, h.output, h.size, fun k hk => h.block k (by omega) (fun hs => by have := hS k (by omega) hs; omega)⟩
theorem Fr.of_below {S : Nat → Prop} {w w' : World} (h : Below w.heap.size w w') : Fr S w w' := ⟨h.os, h.tape, h.output, h.size, fun k hk _ => h.block k hk⟩
theorem Fr.setCell {S : Nat → Prop} {a w : World} (h : Fr S a w) {p : Addr} (hp : S p.block) (u : Value) : Fr S a (w.setCell p u) :=
  ⟨h.os, h.tape, h.output, by simpa [World.setCell] using h.size, fun k hk hs => by
    rw [Below.heap_setCell _ _ _ _ (fun e => hs (by subst e; exact hp))]; exact h.block k hk hs⟩
theorem Fr.alloc {S : Nat → Prop} {a w : World} (h : Fr S a w) (o : Obj) : Fr S a (w.alloc o) :=
  ⟨h.os, h.tape, h.output, by simpa using Nat.le_succ_of_le h.size, fun k hk hs => by
    rw [Below.heap_alloc _ _ _ (Nat.lt_of_lt_of_le hk h.size)]; exact h.block k hk hs⟩
theorem Fr.drew {S : Nat → Prop} {a w : World} (h : Fr S a w) : Fr S a w.drew := ⟨h.os, h.tape, h.output, h.size, h.block⟩
theorem Fr.cell {S : Nat → Prop} {w w' : World} (h : Fr S w w') {p : Addr} (hp : p.block < w.heap.size) (hs : ¬ S p.block) : w'.cell? p = w.cell? p := World.cell?_of_block (w := w) (h.block p.block hp hs)
theorem Fr.frozen {S : Nat → Prop} {w w' : World} (h : Fr S w w') {p : Addr} (hp : p.block < w.heap.size) (hs : ¬ S p.block) : w'.frozen? p = w.frozen? p := World.frozen?_of_block (w := w) (h.block p.block hp hs)

/-- A slice of structs of two numbers that is read. -/
def PairsIn (B : Nat) (w : World) (a : Option Addr) (n : Nat) (xs : List (Int × Int)) : Prop :=
  xs.length = n ∧ (0 < n → ∃ b off, a = some ⟨b, off, none⟩ ∧ b < B ∧ ∀ j (h : j < xs.length), w.cell? ⟨b, off + j * 2, none⟩ = some (.int .i64 xs[j].1) ∧ w.cell? ⟨b, off + j * 2 + 1, none⟩ = some (.int .i64 xs[j].2))
theorem PairsIn.keep {w w' : World} {a : Option Addr} {n B : Nat} {xs : List (Int × Int)} (h : PairsIn B w a n xs) (hb : Below B w w') : PairsIn B w' a n xs :=
  ⟨h.1, fun hn => by
    obtain ⟨b, off, e, hlt, hc⟩ := h.2 hn
    exact ⟨b, off, e, hlt, fun j hj => ⟨(hb.cell (p := ⟨b, off + j * 2, none⟩) hlt).trans (hc j hj).1, (hb.cell (p := ⟨b, off + j * 2 + 1, none⟩) hlt).trans (hc j hj).2⟩⟩⟩

theorem flatMap_at {α β : Type} (f : α → List β) (k : Nat) (hf : ∀ x, (f x).length = k) (l : List α) (i j : Nat) (hi : i < l.length) (hj : j < k) :
    (l.flatMap f)[i * k + j]? = (f l[i])[j]? := by
  induction l generalizing i with
  | nil => simp at hi
  | cons x l ih =>
    rw [List.flatMap_cons]
    cases i with
    | zero =>
      rw [Nat.zero_mul, Nat.zero_add, List.getElem?_append_left (by rw [hf]; exact hj)]
      rfl
    | succ i =>
      have hi' : i < l.length := by simpa using hi
      rw [List.getElem?_append_right (by rw [hf, Nat.succ_mul]; omega), hf, show (i + 1) * k + j - k = i * k + j from by rw [Nat.succ_mul]; omega]
      exact ih i hi'

theorem ownsRow_cells {w : World} {base e size : Nat} {v : Value} {n : Nat} {xs : List Value} (h : w.ownsRow base e size v n xs) (hn : 0 < n) :
    ∃ g cap, v = .slice (some ⟨g, 0, none⟩) n cap ∧ base ≤ g ∧ g < w.heap.size ∧ n ≤ cap ∧ (∀ j u, xs[j]? = some u → w.cell? ⟨g, j, none⟩ = some u) ∧ ∀ o, w.frozen? ⟨g, o, none⟩ = false := by
  obtain ⟨h1, h2⟩ := h
  rcases h2 with ⟨_, h0⟩ | ⟨g, cap, cur, hv, hb, hh, hc, hm, hs, ht⟩
  · omega
  · refine ⟨g, cap, hv, hb, ?_, hc, ?_, ?_⟩
    · rcases Nat.lt_or_ge g w.heap.size with h | h
      · exact h
      · rw [Array.getElem?_eq_none h] at hh; simp at hh
    · intro j u hu
      rw [← ht, List.getElem?_take] at hu
      split at hu
      · simp only [World.cell?, hh]
        simpa using hu
      · simp at hu
    · intro o
      simp [World.frozen?, hh]

theorem ownsRow_block {w : World} {base e size : Nat} {v : Value} {n : Nat} {xs : List Value} (h : w.ownsRow base e size v n xs) (k : Nat) (hk : v.ownBlock = some k) : base ≤ k := by
  rcases h.2 with ⟨rfl, _⟩ | ⟨g, cap, cur, rfl, hb, _⟩
  · simp [Value.ownBlock] at hk
  · simp [Value.ownBlock] at hk; omega

theorem cell_new (w : World) (cs : Array Value) (T : TypeId) (j : Nat) (u : Value) (h : cs.toList[j]? = some u) : (w.alloc (.cells cs T)).cell? ((⟨w.heap.size, 0, none⟩ : Addr).add j) = some u := by
  have e : ((⟨w.heap.size, 0, none⟩ : Addr).add j) = ⟨w.heap.size, j, none⟩ := by
    unfold Addr.add; split
    · rename_i h0; subst h0; rfl
    · simp
  rw [e]
  have h' : cs[j]? = some u := by simpa using h
  show (match (w.heap.push (.cells cs T))[w.heap.size]? with | some (.cells c _ _) => if (none : Option Nat).isSome then none else c[j]? | _ => none) = some u
  simp [h']

theorem block_lt {w : World} {a : Addr} {v : Value} (h : w.cell? a = some v) : a.block < w.heap.size := by
  rcases Nat.lt_or_ge a.block w.heap.size with h' | h'
  · exact h'
  · simp [World.cell?, Array.getElem?_eq_none h'] at h

theorem add_none (b off j : Nat) : (⟨b, off, none⟩ : Addr).add j = ⟨b, off + j, none⟩ := by
  unfold Addr.add; split
  · rename_i h; subst h; rfl
  · rfl


theorem cell_newb (w : World) (cs : Array Value) (T : TypeId) (b j : Nat) (u : Value) (hb : b = w.heap.size) (h : cs.toList[j]? = some u) : (w.alloc (.cells cs T)).cell? ⟨b, j, none⟩ = some u := by
  subst hb
  have := cell_new w cs T j u h
  rwa [add_none, Nat.zero_add] at this

theorem Fr.drewN {S : Nat → Prop} {a w : World} (h : Fr S a w) (n : Nat) : Fr S a (w.drewN n) := ⟨h.os, h.tape, h.output, h.size, h.block⟩
theorem Fr.mono {S T : Nat → Prop} {w w' : World} (h : Fr S w w') (hS : ∀ i, i < w.heap.size → S i → T i) : Fr T w w' := ⟨h.os, h.tape, h.output, h.size, fun k hk ht => h.block k hk (fun hs => ht (hS k hk hs))⟩

theorem ownsRow_form {w : World} {base e size : Nat} {v : Value} {n : Nat} {xs : List Value} (h : w.ownsRow base e size v n xs) : ∃ a cap, v = .slice a n cap := by
  rcases h.2 with ⟨rfl, rfl⟩ | ⟨g, cap, cur, rfl, _⟩
  · exact ⟨_, _, rfl⟩
  · exact ⟨_, _, rfl⟩

theorem ownsRow_lt {w : World} {base e size : Nat} {v : Value} {n : Nat} {xs : List Value} (h : w.ownsRow base e size v n xs) (k : Nat) (hk : v.ownBlock = some k) : k < w.heap.size := by
  rcases h.2 with ⟨rfl, _⟩ | ⟨g, cap, cur, rfl, hb, hh, _⟩
  · simp [Value.ownBlock] at hk
  · simp [Value.ownBlock] at hk
    subst hk
    rcases Nat.lt_or_ge g w.heap.size with h | h
    · exact h
    · rw [Array.getElem?_eq_none h] at hh; simp at hh

theorem ownsRow_keep {w w' : World} {base e size : Nat} {v : Value} {n : Nat} {xs : List Value} (h : w.ownsRow base e size v n xs) (hk : ∀ k, v.ownBlock = some k → w'.heap[k]? = w.heap[k]?) : w'.ownsRow base e size v n xs := by
  refine ⟨h.1, ?_⟩
  rcases h.2 with h2 | ⟨g, cap, cur, rfl, hb, hh, r⟩
  · exact .inl h2
  · exact .inr ⟨g, cap, cur, rfl, hb, (hk g rfl).trans hh, r⟩

theorem ownsRow_base {w : World} {base base' e size : Nat} {v : Value} {n : Nat} {xs : List Value} (h : w.ownsRow base e size v n xs) (hb : base' ≤ base) : w.ownsRow base' e size v n xs := by
  refine ⟨h.1, ?_⟩
  rcases h.2 with h2 | ⟨g, cap, cur, rfl, hb', r⟩
  · exact .inl h2
  · exact .inr ⟨g, cap, cur, rfl, Nat.le_trans hb hb', r⟩

theorem grown_keep {w W w' : World} {row : Option Nat} {p : Nat} (hg : W.grownBy w' row) (hW : Fr (fun _ => False) w W) (hp : p < w.heap.size) (hr : row ≠ some p) (i : Nat) :
    w'.cell? ⟨p, i, none⟩ = w.cell? ⟨p, i, none⟩ ∧ w'.frozen? ⟨p, i, none⟩ = w.frozen? ⟨p, i, none⟩ := by
  have hb : w'.heap[p]? = w.heap[p]? := (hg.block p (Nat.lt_of_lt_of_le hp hW.size) (fun e => hr e.symm)).trans (hW.block p hp (by simp))
  exact ⟨World.cell?_of_block (a := ⟨p, i, none⟩) hb, World.frozen?_of_block (a := ⟨p, i, none⟩) hb⟩

theorem Fr.grown {S : Nat → Prop} {a w w' : World} {row : Option Nat} (h : Fr S a w) (hg : w.grownBy w' row) (hr : ∀ g, row = some g → g < a.heap.size → S g) : Fr S a w' :=
  ⟨hg.os.trans h.os, hg.tape.trans h.tape, hg.output.trans h.output, Nat.le_trans h.size hg.size, fun k hk hs => by
    refine (hg.block k (Nat.lt_of_lt_of_le hk h.size) (fun e => hs (hr k e.symm hk))).trans (h.block k hk hs)⟩

/-- An entry's two cells: its time, its number. -/
def dueC (d : Int × Int) : List Value := [.int .i64 d.1, .int .i64 d.2]

theorem dueC_length (d : Int × Int) : (dueC d).length = 2 := rfl

/-- A row of entries of one's own, read. -/
theorem dues_of_own {w : World} {base n : Nat} {a : Option Addr} {cap : Nat} {l : List (Int × Int)} (h : w.ownsRow base 30 2 (.slice a n cap) l.length (l.flatMap dueC)) (hn : n = l.length) : PairsIn w.heap.size w a n l := by
  refine ⟨hn.symm, fun h0 => ?_⟩
  obtain ⟨g, cap', hv, _, hlt, _, hc, _⟩ := ownsRow_cells h (by omega)
  simp at hv
  obtain ⟨rfl, _⟩ := hv
  refine ⟨g, 0, rfl, hlt, fun j hj => ?_⟩
  have := fun k (hk : k < 2) => flatMap_at dueC 2 dueC_length l j k hj hk
  refine ⟨?_, ?_⟩
  · rw [Nat.zero_add]; exact hc _ _ (this 0 (by omega))
  · rw [Nat.zero_add]; exact hc _ _ (this 1 (by omega))

structure Whl where
  b : Nat → List (Int × Int)
  now : Int
  n : Nat
  room : Nat

/-- The wheel at block p; F: the blocks that are its own; all of them from B on. -/
structure WheelAt (B : Nat) (w : World) (p : Nat) (F : Nat → Prop) (S : Whl) : Prop where
  p1 : p < w.heap.size
  fp : F p
  flt : ∀ k, F k → k < w.heap.size ∧ B ≤ k
  now : w.cell? ⟨p, 64, none⟩ = some (.int .i64 S.now)
  n : w.cell? ⟨p, 65, none⟩ = some (.int .i64 S.n)
  room : w.cell? ⟨p, 66, none⟩ = some (.int .i64 S.room)
  fz : ∀ o, w.frozen? ⟨p, o, none⟩ = false
  row : ∃ vs : Nat → Value, (∀ i, i < 64 → w.cell? ⟨p, i, none⟩ = some (vs i) ∧ w.ownsRow B 30 2 (vs i) (S.b i).length ((S.b i).flatMap dueC) ∧ ∀ g, (vs i).ownBlock = some g → F g ∧ g ≠ p) ∧
    ∀ i j, i < 64 → j < 64 → i ≠ j → ∀ g, (vs i).ownBlock = some g → (vs j).ownBlock ≠ some g

theorem WheelAt.keep {B : Nat} {w w' : World} {p : Nat} {F T : Nat → Prop} {S : Whl} (h : WheelAt B w p F S) (hf : Fr T w w') (hT : ∀ k, F k → ¬ T k) : WheelAt B w' p F S where
  p1 := Nat.lt_of_lt_of_le h.p1 hf.size
  fp := h.fp
  flt := fun k hk => ⟨Nat.lt_of_lt_of_le (h.flt k hk).1 hf.size, (h.flt k hk).2⟩
  now := by rw [hf.cell (p := ⟨p, 64, none⟩) h.p1 (hT p h.fp)]; exact h.now
  n := by rw [hf.cell (p := ⟨p, 65, none⟩) h.p1 (hT p h.fp)]; exact h.n
  room := by rw [hf.cell (p := ⟨p, 66, none⟩) h.p1 (hT p h.fp)]; exact h.room
  fz := fun o => by rw [hf.frozen (p := ⟨p, o, none⟩) h.p1 (hT p h.fp)]; exact h.fz o
  row := by
    obtain ⟨vs, h1, h2⟩ := h.row
    refine ⟨vs, fun i hi => ?_, h2⟩
    obtain ⟨a, b, c⟩ := h1 i hi
    refine ⟨by rw [hf.cell (p := ⟨p, i, none⟩) h.p1 (hT p h.fp)]; exact a, ownsRow_keep b fun k hk => ?_, c⟩
    exact hf.block k (h.flt k (c k hk).1).1 (hT k (c k hk).1)

theorem WheelAt.below {B : Nat} {w w' : World} {p : Nat} {F : Nat → Prop} {S : Whl} (h : WheelAt B w p F S) (hb : Below w.heap.size w w') : WheelAt B w' p F S :=
  h.keep (Fr.of_below (S := fun _ => False) hb) (by simp)

theorem WheelAt.drewN {B : Nat} {w : World} {p : Nat} {F : Nat → Prop} {S : Whl} (h : WheelAt B w p F S) (n : Nat) : WheelAt B (w.drewN n) p F S :=
  h.keep (T := fun _ => False) ((Fr.refl _ _).drewN n) (by simp)

theorem addr_ne {b : Nat} {x y : Nat} (h : x ≠ y) : (⟨b, x, none⟩ : Addr) ≠ ⟨b, y, none⟩ := fun e => h (by cases e; rfl)
theorem addr_ne' {a b : Nat} {x y : Nat} (h : a ≠ b) : (⟨a, x, none⟩ : Addr) ≠ ⟨b, y, none⟩ := fun e => h (by cases e; rfl)

/-- The count is written. -/
theorem WheelAt.setN {B : Nat} {w : World} {p : Nat} {F : Nat → Prop} {S : Whl} (h : WheelAt B w p F S) (m : Nat) : WheelAt B (w.setCell ⟨p, 65, none⟩ (.int .i64 m)) p F { S with n := m } where
  p1 := by simpa [World.setCell] using h.p1
  fp := h.fp
  flt := fun k hk => by simpa [World.setCell] using h.flt k hk
  now := by rw [World.cell?_setCell_other _ _ _ _ (addr_ne (by omega))]; exact h.now
  n := World.cell?_setCell_same _ _ _ h.n
  room := by rw [World.cell?_setCell_other _ _ _ _ (addr_ne (by omega))]; exact h.room
  fz := fun o => by rw [World.frozen?_setCell]; exact h.fz o
  row := by
    obtain ⟨vs, h1, h2⟩ := h.row
    refine ⟨vs, fun i hi => ?_, h2⟩
    obtain ⟨a, b, c⟩ := h1 i hi
    refine ⟨by rw [World.cell?_setCell_other _ _ _ _ (addr_ne (by omega))]; exact a, ownsRow_keep b fun k hk => ?_, c⟩
    exact Below.heap_setCell _ _ _ _ (c k hk).2

/-- The time is written. -/
theorem WheelAt.setNow {B : Nat} {w : World} {p : Nat} {F : Nat → Prop} {S : Whl} (h : WheelAt B w p F S) (m : Int) : WheelAt B (w.setCell ⟨p, 64, none⟩ (.int .i64 m)) p F { S with now := m } where
  p1 := by simpa [World.setCell] using h.p1
  fp := h.fp
  flt := fun k hk => by simpa [World.setCell] using h.flt k hk
  now := World.cell?_setCell_same _ _ _ h.now
  n := by rw [World.cell?_setCell_other _ _ _ _ (addr_ne (by omega))]; exact h.n
  room := by rw [World.cell?_setCell_other _ _ _ _ (addr_ne (by omega))]; exact h.room
  fz := fun o => by rw [World.frozen?_setCell]; exact h.fz o
  row := by
    obtain ⟨vs, h1, h2⟩ := h.row
    refine ⟨vs, fun i hi => ?_, h2⟩
    obtain ⟨a, b, c⟩ := h1 i hi
    refine ⟨by rw [World.cell?_setCell_other _ _ _ _ (addr_ne (by omega))]; exact a, ownsRow_keep b fun k hk => ?_, c⟩
    exact Below.heap_setCell _ _ _ _ (c k hk).2

def Whl.put (S : Whl) (i : Nat) (l : List (Int × Int)) : Whl := { S with b := fun j => if j = i then l else S.b j }

/-- The wheel, but for what lies at place i. -/
structure WheelBut (B : Nat) (w : World) (p : Nat) (F : Nat → Prop) (S : Whl) (i : Nat) : Prop where
  p1 : p < w.heap.size
  fp : F p
  flt : ∀ k, F k → k < w.heap.size ∧ B ≤ k
  now : w.cell? ⟨p, 64, none⟩ = some (.int .i64 S.now)
  n : w.cell? ⟨p, 65, none⟩ = some (.int .i64 S.n)
  room : w.cell? ⟨p, 66, none⟩ = some (.int .i64 S.room)
  fz : ∀ o, w.frozen? ⟨p, o, none⟩ = false
  here : ∃ u, w.cell? ⟨p, i, none⟩ = some u
  row : ∃ vs : Nat → Value, (∀ j, j < 64 → j ≠ i → w.cell? ⟨p, j, none⟩ = some (vs j) ∧ w.ownsRow B 30 2 (vs j) (S.b j).length ((S.b j).flatMap dueC) ∧ ∀ g, (vs j).ownBlock = some g → F g ∧ g ≠ p) ∧
    ∀ j k, j < 64 → k < 64 → j ≠ i → k ≠ i → j ≠ k → ∀ g, (vs j).ownBlock = some g → (vs k).ownBlock ≠ some g

theorem WheelAt.but {B : Nat} {w : World} {p : Nat} {F : Nat → Prop} {S : Whl} (h : WheelAt B w p F S) (i : Nat) (hi : i < 64) : WheelBut B w p F S i where
  p1 := h.p1
  fp := h.fp
  flt := h.flt
  now := h.now
  n := h.n
  room := h.room
  fz := h.fz
  here := by obtain ⟨vs, h1, _⟩ := h.row; exact ⟨_, (h1 i hi).1⟩
  row := by
    obtain ⟨vs, h1, h2⟩ := h.row
    exact ⟨vs, fun j hj _ => h1 j hj, fun j k hj hk _ _ hjk => h2 j k hj hk hjk⟩

/-- Place i's own row may turn. -/
theorem WheelAt.but_keep {B : Nat} {w w' : World} {p : Nat} {F : Nat → Prop} {S : Whl} (h : WheelAt B w p F S) (i : Nat) (hi : i < 64) {v : Value} (hv : w.cell? ⟨p, i, none⟩ = some v)
    (hf : Fr (fun k => v.ownBlock = some k) w w') : WheelBut B w' p F S i := by
  obtain ⟨vs, h1, h2⟩ := h.row
  have e : vs i = v := by have := (h1 i hi).1; rw [hv] at this; exact (Option.some.inj this).symm
  have hvp : ¬ v.ownBlock = some p := fun hh => ((h1 i hi).2.2 p (by rw [e]; exact hh)).2 rfl
  have hc : ∀ o, w'.cell? ⟨p, o, none⟩ = w.cell? ⟨p, o, none⟩ := fun o => hf.cell (p := ⟨p, o, none⟩) h.p1 hvp
  refine ⟨Nat.lt_of_lt_of_le h.p1 hf.size, h.fp, fun k hk => ⟨Nat.lt_of_lt_of_le (h.flt k hk).1 hf.size, (h.flt k hk).2⟩, by rw [hc]; exact h.now, by rw [hc]; exact h.n, by rw [hc]; exact h.room,
    fun o => by rw [hf.frozen (p := ⟨p, o, none⟩) h.p1 hvp]; exact h.fz o, ⟨v, by rw [hc]; exact hv⟩, vs, fun j hj hji => ?_, fun j k hj hk _ _ hjk => h2 j k hj hk hjk⟩
  obtain ⟨a, b, c⟩ := h1 j hj
  refine ⟨by rw [hc]; exact a, ownsRow_keep b fun k hk => hf.block k (h.flt k (c k hk).1).1 (fun hh => ?_), c⟩
  exact h2 j i hj hi hji k hk (by rw [e]; exact hh)

/-- A place's row is written: v, that holds l; its block is new to the wheel, or was this place's. -/
theorem WheelBut.setRow {B : Nat} {w : World} {p : Nat} {F : Nat → Prop} {S : Whl} {i : Nat} (h : WheelBut B w p F S i) (hi : i < 64) (v : Value) (l : List (Int × Int))
    (hv : w.ownsRow B 30 2 v l.length (l.flatMap dueC)) (hp : v.ownBlock ≠ some p) (hnew : ∀ j vj, j < 64 → j ≠ i → w.cell? ⟨p, j, none⟩ = some vj → ∀ g, v.ownBlock = some g → vj.ownBlock ≠ some g) :
    WheelAt B (w.setCell ⟨p, i, none⟩ v) p (fun k => F k ∨ v.ownBlock = some k) (S.put i l) where
  p1 := by simpa [World.setCell] using h.p1
  fp := .inl h.fp
  flt := fun k hk => by
    rcases hk with hk | hk
    · simpa [World.setCell] using h.flt k hk
    · exact ⟨by simpa [World.setCell] using ownsRow_lt hv k hk, ownsRow_block hv k hk⟩
  now := by rw [World.cell?_setCell_other _ _ _ _ (addr_ne (by omega))]; exact h.now
  n := by rw [World.cell?_setCell_other _ _ _ _ (addr_ne (by omega))]; exact h.n
  room := by rw [World.cell?_setCell_other _ _ _ _ (addr_ne (by omega))]; exact h.room
  fz := fun o => by rw [World.frozen?_setCell]; exact h.fz o
  row := by
    obtain ⟨vs, h1, h2⟩ := h.row
    obtain ⟨u, hu⟩ := h.here
    refine ⟨fun j => if j = i then v else vs j, fun j hj => ?_, fun j k hj hk hjk g hg => ?_⟩
    rotate_left
    · simp only at hg ⊢
      by_cases ej : j = i
      · subst ej
        rw [if_pos rfl] at hg
        rw [if_neg (fun e => hjk e.symm)]
        exact hnew k (vs k) hk (fun e => hjk e.symm) (h1 k hk (fun e => hjk e.symm)).1 g hg
      · rw [if_neg ej] at hg
        by_cases ek : k = i
        · subst ek
          rw [if_pos rfl]
          intro hv'
          exact hnew j (vs j) hj ej (h1 j hj ej).1 g hv' hg
        · rw [if_neg ek]; exact h2 j k hj hk ej ek hjk g hg
    · by_cases e : j = i
      · subst e
        simp only [if_true, Whl.put]
        refine ⟨World.cell?_setCell_same _ _ _ hu, ownsRow_keep hv fun k hk => Below.heap_setCell _ _ _ _ (fun e => hp (by subst e; exact hk)), fun g hg => ⟨.inr hg, fun e => hp (by subst e; exact hg)⟩⟩
      · simp only [if_neg e, Whl.put]
        obtain ⟨a, b, c⟩ := h1 j hj e
        exact ⟨by rw [World.cell?_setCell_other _ _ _ _ (addr_ne (fun e' => e e'.symm))]; exact a, ownsRow_keep b fun k hk => Below.heap_setCell _ _ _ _ (c k hk).2, fun g hg => ⟨.inl (c g hg).1, (c g hg).2⟩⟩
end Go.Proofs.Ythmbbbdnfgefbaa
