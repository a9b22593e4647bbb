/- WORDS FOR MEMORY: what stays outside a set of blocks ('Fr'), the guard of layer 10 as it lies in memory. -/
import Derived.WalkKit
import Derived.WalkSpells
import Derived.WalkLawsBesides
namespace Go.Proofs.Ytbcoiemjbbbmkaa
open Go.RowKit

/-- Outside the blocks S, and of what was there, nothing has turned. -/
structure Fr (S : Nat → Prop) (w w' : World) : Prop where
  os : w'.os = w.os
  tape : w'.tape = w.tape
  output : w'.output = w.output
  size : w.heap.size ≤ w'.heap.size
  block : ∀ k, k < w.heap.size → ¬ S k → w'.heap[k]? = w.heap[k]?

theorem Fr.refl (S : Nat → Prop) (w : World) : Fr S w w := ⟨rfl, rfl, rfl, Nat.le_refl _, fun _ _ _ => rfl⟩
theorem Fr.trans {S T U : Nat → Prop} {a b c : World} (h : Fr S a b) (k : Fr T b c) (hS : ∀ i, i < a.heap.size → S i → U i) (hT : ∀ i, i < a.heap.size → T i → U i) : Fr U a c :=
  ⟨k.os.trans h.os, k.tape.trans h.tape, k.output.trans h.output, Nat.le_trans h.size k.size, fun i hi hu =>
    (k.block i (Nat.lt_of_lt_of_le hi h.size) (fun ht => hu (hT i hi ht))).trans (h.block i hi (fun hs => hu (hS i hi hs)))⟩
theorem Fr.below {S : Nat → Prop} {w w' : World} {B : Nat} (h : Fr S w w') (hS : ∀ i, i < w.heap.size → S i → B ≤ i) (hB : B ≤ w.heap.size) : Below B w w' :=
  ⟨h.os, h.tape, h.output, h.size, fun k hk => h.block k (by omega) (fun hs => by have := hS k (by omega) hs; omega)⟩
theorem Fr.of_below {S : Nat → Prop} {w w' : World} (h : Below w.heap.size w w') : Fr S w w' := ⟨h.os, h.tape, h.output, h.size, fun k hk _ => h.block k hk⟩
theorem Fr.setCell {S : Nat → Prop} {a w : World} (h : Fr S a w) {p : Addr} (hp : S p.block) (u : Value) : Fr S a (w.setCell p u) :=
  ⟨h.os, h.tape, h.output, by simpa [World.setCell] using h.size, fun k hk hs => by
    rw [Below.heap_setCell _ _ _ _ (fun e => hs (by subst e; exact hp))]; exact h.block k hk hs⟩
theorem Fr.alloc {S : Nat → Prop} {a w : World} (h : Fr S a w) (o : Obj) : Fr S a (w.alloc o) :=
  ⟨h.os, h.tape, h.output, by simpa using Nat.le_succ_of_le h.size, fun k hk hs => by
    rw [Below.heap_alloc _ _ _ (Nat.lt_of_lt_of_le hk h.size)]; exact h.block k hk hs⟩
theorem Fr.drew {S : Nat → Prop} {a w : World} (h : Fr S a w) : Fr S a w.drew := ⟨h.os, h.tape, h.output, h.size, h.block⟩
theorem Fr.cell {S : Nat → Prop} {w w' : World} (h : Fr S w w') {p : Addr} (hp : p.block < w.heap.size) (hs : ¬ S p.block) : w'.cell? p = w.cell? p := World.cell?_of_block (w := w) (h.block p.block hp hs)
theorem Fr.frozen {S : Nat → Prop} {w w' : World} (h : Fr S w w') {p : Addr} (hp : p.block < w.heap.size) (hs : ¬ S p.block) : w'.frozen? p = w.frozen? p := World.frozen?_of_block (w := w) (h.block p.block hp hs)

/-- A slice of numbers that is read (nil, empty or not), in a block below B. -/
def IntsIn (B : Nat) (w : World) (a : Option Addr) (n : Nat) (xs : List Int) : Prop :=
  xs.length = n ∧ (0 < n → ∃ b off, a = some ⟨b, off, none⟩ ∧ b < B ∧ ∀ j (h : j < xs.length), w.cell? ⟨b, off + j, none⟩ = some (.int .i64 xs[j]))
theorem IntsIn.keep {w w' : World} {a : Option Addr} {n B : Nat} {xs : List Int} (h : IntsIn B w a n xs) (hb : Below B w w') : IntsIn B w' a n xs :=
  ⟨h.1, fun hn => by
    obtain ⟨b, off, e, hlt, hc⟩ := h.2 hn
    exact ⟨b, off, e, hlt, fun j hj => (hb.cell (p := ⟨b, off + j, none⟩) hlt).trans (hc j hj)⟩⟩

/-- A slice of structs of two numbers that is read. -/
def PairsIn (B : Nat) (w : World) (a : Option Addr) (n : Nat) (xs : List (Int × Int)) : Prop :=
  xs.length = n ∧ (0 < n → ∃ b off, a = some ⟨b, off, none⟩ ∧ b < B ∧ ∀ j (h : j < xs.length), w.cell? ⟨b, off + j * 2, none⟩ = some (.int .i64 xs[j].1) ∧ w.cell? ⟨b, off + j * 2 + 1, none⟩ = some (.int .i64 xs[j].2))
theorem PairsIn.keep {w w' : World} {a : Option Addr} {n B : Nat} {xs : List (Int × Int)} (h : PairsIn B w a n xs) (hb : Below B w w') : PairsIn B w' a n xs :=
  ⟨h.1, fun hn => by
    obtain ⟨b, off, e, hlt, hc⟩ := h.2 hn
    exact ⟨b, off, e, hlt, fun j hj => ⟨(hb.cell (p := ⟨b, off + j * 2, none⟩) hlt).trans (hc j hj).1, (hb.cell (p := ⟨b, off + j * 2 + 1, none⟩) hlt).trans (hc j hj).2⟩⟩⟩

structure Gate where
  apart : Int
  opn : Int
  count : Int
deriving Inhabited, DecidableEq

def Gate.cells (g : Gate) : List Value := [.int .i64 g.apart, .int .i64 g.opn, .int .i64 g.count]

/-- The guard at block p, its gates in block q. -/
structure GuardAt (w : World) (p q cap N : Nat) (gs : List Gate) : Prop where
  fld : w.cell? ⟨p, 0, none⟩ = some (.slice (some ⟨q, 0, none⟩) gs.length cap)
  ffld : w.frozen? ⟨p, 0, none⟩ = false
  len : gs.length ≤ 16
  capl : gs.length ≤ cap
  ap : ∀ i (h : i < gs.length), w.cell? ⟨q, i * 3, none⟩ = some (.int .i64 gs[i].apart)
  opn : ∀ i (h : i < gs.length), w.cell? ⟨q, i * 3 + 1, none⟩ = some (.int .i64 gs[i].opn)
  ct : ∀ i (h : i < gs.length), w.cell? ⟨q, i * 3 + 2, none⟩ = some (.int .i64 gs[i].count)
  fr : ∀ o, w.frozen? ⟨q, o, none⟩ = false
  ne : p ≠ q
  p1 : p < w.heap.size
  q1 : q < w.heap.size
  rng : ∀ g ∈ gs, 1 ≤ g.apart ∧ g.apart ≤ 1048576 ∧ 0 ≤ g.opn ∧ g.opn ≤ 1099512676352 ∧ 0 ≤ g.count ∧ g.count ≤ N

/-- What a go comes to: the answer's number, and the gates behind it. -/
def goStep (gs : List Gate) (i t : Int) : Int × List Gate :=
  if i < 0 ∨ gs.length ≤ i ∨ t < 0 ∨ 1099511627776 < t then (1, gs)
  else if t < (gs.getD i.toNat default).opn then (6, gs)
  else (0, gs.set i.toNat { (gs.getD i.toNat default) with opn := t + (gs.getD i.toNat default).apart, count := (gs.getD i.toNat default).count + 1 })

/-- When a gate is open; how often it was gone through. -/
def openF (gs : List Gate) (i : Int) : Int := if 0 ≤ i ∧ i < gs.length then (gs.getD i.toNat default).opn else 0
def countF (gs : List Gate) (i : Int) : Int := if 0 ≤ i ∧ i < gs.length then (gs.getD i.toNat default).count else 0

def Gate.zero (g : Gate) : Gate := { g with opn := 0, count := 0 }
/-- the first k gates forgotten -/
def zeroTo (gs : List Gate) (k : Nat) : List Gate := (gs.take k).map Gate.zero ++ gs.drop k
theorem zeroTo_length (gs : List Gate) (k : Nat) : (zeroTo gs k).length = gs.length := by simp [zeroTo]; omega
theorem zeroTo_at (gs : List Gate) (k : Nat) (h : k < gs.length) : (zeroTo gs k)[k]'(by rw [zeroTo_length]; exact h) = gs[k] := by
  simp only [zeroTo]
  rw [List.getElem_append_right (by simp; omega)]
  simp [Nat.min_eq_left (Nat.le_of_lt h)]
theorem zeroTo_succ (gs : List Gate) (k : Nat) (h : k < gs.length) : zeroTo gs (k + 1) = (zeroTo gs k).set k gs[k].zero := by
  simp only [zeroTo]
  rw [List.take_succ_eq_append_getElem h, List.map_append, List.set_append_right _ _ (by simp; omega), List.length_map, List.length_take, Nat.min_eq_left (Nat.le_of_lt h), Nat.sub_self,
    List.drop_eq_getElem_cons h, List.set_cons_zero]
  simp

theorem goStep_length (gs : List Gate) (i t : Int) : (goStep gs i t).2.length = gs.length := by
  unfold goStep; split; · rfl
  split; · rfl
  simp

theorem goStep_apart (gs : List Gate) (i t : Int) : (goStep gs i t).2.map (·.apart) = gs.map (·.apart) := by
  unfold goStep; split; · rfl
  split; · rfl
  rw [List.map_set]
  simp only
  apply List.ext_getElem
  · simp
  · intro k h1 h2
    rw [List.getElem_set]
    split
    · rename_i e; subst e
      have : i.toNat < gs.length := by simpa using h2
      simp [List.getD_eq_getElem?_getD, this]
    · rfl

/-- What is kept where other blocks alone turn. -/
theorem GuardAt.keep {w w' : World} {p q cap N : Nat} {gs : List Gate} {S : Nat → Prop} (h : GuardAt w p q cap N gs) (hf : Fr S w w') (hp : ¬ S p) (hq : ¬ S q) : GuardAt w' p q cap N gs where
  fld := by rw [hf.cell (p := ⟨p, 0, none⟩) h.p1 hp]; exact h.fld
  ffld := by rw [hf.frozen (p := ⟨p, 0, none⟩) h.p1 hp]; exact h.ffld
  len := h.len
  capl := h.capl
  ap := fun i hi => by rw [hf.cell (p := ⟨q, i * 3, none⟩) h.q1 hq]; exact h.ap i hi
  opn := fun i hi => by rw [hf.cell (p := ⟨q, i * 3 + 1, none⟩) h.q1 hq]; exact h.opn i hi
  ct := fun i hi => by rw [hf.cell (p := ⟨q, i * 3 + 2, none⟩) h.q1 hq]; exact h.ct i hi
  fr := fun o => by rw [hf.frozen (p := ⟨q, o, none⟩) h.q1 hq]; exact h.fr o
  ne := h.ne
  p1 := Nat.lt_of_lt_of_le h.p1 hf.size
  q1 := Nat.lt_of_lt_of_le h.q1 hf.size
  rng := h.rng

theorem GuardAt.drew {w : World} {p q cap N : Nat} {gs : List Gate} (h : GuardAt w p q cap N gs) : GuardAt w.drew p q cap N gs :=
  ⟨h.fld, h.ffld, h.len, h.capl, h.ap, h.opn, h.ct, h.fr, h.ne, h.p1, h.q1, h.rng⟩

theorem GuardAt.more {w : World} {p q cap N M : Nat} {gs : List Gate} (h : GuardAt w p q cap N gs) (hN : N ≤ M) : GuardAt w p q cap M gs :=
  { h with rng := fun g hg => by have := h.rng g hg; omega }

/-- One gate is written: the time it is open from, and its count. -/
theorem GuardAt.put {w : World} {p q cap N : Nat} {gs : List Gate} (h : GuardAt w p q cap N gs) (i : Nat) (hi : i < gs.length) (o c : Int)
    (ho : 0 ≤ o) (ho' : o ≤ 1099512676352) (hc : 0 ≤ c) (hc' : c ≤ (N : Int) + 1) :
    GuardAt ((w.setCell ⟨q, i * 3 + 1, none⟩ (.int .i64 o)).setCell ⟨q, i * 3 + 2, none⟩ (.int .i64 c)) p q cap (N + 1) (gs.set i { gs[i] with opn := o, count := c }) := by
  have e : ∀ {a b : Nat}, a ≠ b → (⟨q, a, none⟩ : Addr) ≠ ⟨q, b, none⟩ := fun hab e => hab (by cases e; rfl)
  have ep : ∀ {a b : Nat}, (⟨q, a, none⟩ : Addr) ≠ ⟨p, b, none⟩ := fun e => h.ne (by simp at e; exact e.1.symm)
  refine ⟨?_, ?_, ?_, ?_, ?_, ?_, ?_, ?_, h.ne, ?_, ?_, ?_⟩
  · rw [World.cell?_setCell_other _ _ _ _ ep, World.cell?_setCell_other _ _ _ _ ep]; simpa using h.fld
  · rw [World.frozen?_setCell, World.frozen?_setCell]; exact h.ffld
  · simpa using h.len
  · simpa using h.capl
  · intro j hj
    have hj' : j < gs.length := by simpa using hj
    rw [World.cell?_setCell_other _ _ _ _ (e (by omega)), World.cell?_setCell_other _ _ _ _ (e (by omega)), h.ap j hj', List.getElem_set]
    split
    · rename_i hh; subst hh; rfl
    · rfl
  · intro j hj
    have hj' : j < gs.length := by simpa using hj
    rw [World.cell?_setCell_other _ _ _ _ (e (by omega)), List.getElem_set]
    split
    · rename_i hh; subst hh
      exact World.cell?_setCell_same _ _ _ (h.opn i hi)
    · rw [World.cell?_setCell_other _ _ _ _ (e (by omega)), h.opn j hj']
  · intro j hj
    have hj' : j < gs.length := by simpa using hj
    rw [List.getElem_set]
    split
    · rename_i hh; subst hh
      exact World.cell?_setCell_same _ _ _ (by rw [World.cell?_setCell_other _ _ _ _ (e (by omega))]; exact h.ct i hi)
    · rw [World.cell?_setCell_other _ _ _ _ (e (by omega)), World.cell?_setCell_other _ _ _ _ (e (by omega)), h.ct j hj']
  · intro j; rw [World.frozen?_setCell, World.frozen?_setCell]; exact h.fr j
  · simpa [World.setCell] using h.p1
  · simpa [World.setCell] using h.q1
  · intro g hg
    rcases List.mem_or_eq_of_mem_set hg with hg | rfl
    · have := h.rng g hg; omega
    · have := h.rng gs[i] (List.getElem_mem hi)
      simp only; omega

theorem flatMap_at {α β : Type} (f : α → List β) (k : Nat) (hf : ∀ x, (f x).length = k) (l : List α) (i j : Nat) (hi : i < l.length) (hj : j < k) :
    (l.flatMap f)[i * k + j]? = (f l[i])[j]? := by
  induction l generalizing i with
  | nil => simp at hi
  | cons x l ih =>
    rw [List.flatMap_cons]
    cases i with
    | zero =>
      rw [Nat.zero_mul, Nat.zero_add, List.getElem?_append_left (by rw [hf]; exact hj)]
      rfl
    | succ i =>
      have hi' : i < l.length := by simpa using hi
      rw [List.getElem?_append_right (by rw [hf, Nat.succ_mul]; omega), hf, show (i + 1) * k + j - k = i * k + j from by rw [Nat.succ_mul]; omega]
      exact ih i hi'

theorem ownsRow_cells {w : World} {base e size : Nat} {v : Value} {n : Nat} {xs : List Value} (h : w.ownsRow base e size v n xs) (hn : 0 < n) :
    ∃ g cap, v = .slice (some ⟨g, 0, none⟩) n cap ∧ base ≤ g ∧ g < w.heap.size ∧ n ≤ cap ∧ (∀ j u, xs[j]? = some u → w.cell? ⟨g, j, none⟩ = some u) ∧ ∀ o, w.frozen? ⟨g, o, none⟩ = false := by
  obtain ⟨h1, h2⟩ := h
  rcases h2 with ⟨_, h0⟩ | ⟨g, cap, cur, hv, hb, hh, hc, hm, hs, ht⟩
  · omega
  · refine ⟨g, cap, hv, hb, ?_, hc, ?_, ?_⟩
    · rcases Nat.lt_or_ge g w.heap.size with h | h
      · exact h
      · rw [Array.getElem?_eq_none h] at hh; simp at hh
    · intro j u hu
      rw [← ht, List.getElem?_take] at hu
      split at hu
      · simp only [World.cell?, hh]
        simpa using hu
      · simp at hu
    · intro o
      simp [World.frozen?, hh]

theorem ownsRow_block {w : World} {base e size : Nat} {v : Value} {n : Nat} {xs : List Value} (h : w.ownsRow base e size v n xs) (k : Nat) (hk : v.ownBlock = some k) : base ≤ k := by
  rcases h.2 with ⟨rfl, _⟩ | ⟨g, cap, cur, rfl, hb, _⟩
  · simp [Value.ownBlock] at hk
  · simp [Value.ownBlock] at hk; omega

theorem cell_new (w : World) (cs : Array Value) (T : TypeId) (j : Nat) (u : Value) (h : cs.toList[j]? = some u) : (w.alloc (.cells cs T)).cell? ((⟨w.heap.size, 0, none⟩ : Addr).add j) = some u := by
  have e : ((⟨w.heap.size, 0, none⟩ : Addr).add j) = ⟨w.heap.size, j, none⟩ := by
    unfold Addr.add; split
    · rename_i h0; subst h0; rfl
    · simp
  rw [e]
  have h' : cs[j]? = some u := by simpa using h
  show (match (w.heap.push (.cells cs T))[w.heap.size]? with | some (.cells c _ _) => if (none : Option Nat).isSome then none else c[j]? | _ => none) = some u
  simp [h']

def newGates (xs : List Int) : List Gate := xs.map fun x => ⟨x, 0, 0⟩

theorem GuardAt.made {w : World} {p N base : Nat} {gs : List Gate} {v : Value} (hv : w.cell? ⟨p, 0, none⟩ = some v) (hf : w.frozen? ⟨p, 0, none⟩ = false) (hp : p < w.heap.size) (hb : p < base)
    (ho : w.ownsRow base 45 3 v gs.length (gs.flatMap Gate.cells)) (h1 : 1 ≤ gs.length) (h16 : gs.length ≤ 16)
    (hr : ∀ g ∈ gs, 1 ≤ g.apart ∧ g.apart ≤ 1048576 ∧ 0 ≤ g.opn ∧ g.opn ≤ 1099512676352 ∧ 0 ≤ g.count ∧ g.count ≤ N) :
    ∃ q cap, GuardAt w p q cap N gs ∧ base ≤ q := by
  obtain ⟨g, cap, rfl, hbg, hg, hc, hcell, hfz⟩ := ownsRow_cells ho h1
  have hat := fun i (hi : i < gs.length) j (hj : j < 3) => flatMap_at Gate.cells 3 (fun _ => rfl) gs i j hi hj
  exact ⟨g, cap, ⟨hv, hf, h16, hc, fun i hi => hcell (i * 3) _ (hat i hi 0 (by omega)), fun i hi => hcell (i * 3 + 1) _ (hat i hi 1 (by omega)), fun i hi => hcell (i * 3 + 2) _ (hat i hi 2 (by omega)), hfz, by omega, hp, hg, hr⟩, hbg⟩

end Go.Proofs.Ytbcoiemjbbbmkaa
