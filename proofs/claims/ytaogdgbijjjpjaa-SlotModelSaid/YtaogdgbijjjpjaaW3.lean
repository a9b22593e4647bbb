/- WALKS: the heap in memory; swap. -/
import Derived.Test.YtaogdgbijjjpjaaW2
import Derived.Test.YtaogdgbijjjpjaaHeapQ
import Derived.BigRegion
namespace Go.Proofs.Ytaogdgbijjjpjaa
open Go.RowKit
set_option linter.unusedVariables false

/-- A struct of a row and its room, at block p (a heap, a table of slots); F: the blocks that are its own, all from B on. -/
structure HA (e : TypeId) (B : Nat) (w : World) (p : Nat) (F : Nat → Prop) (l : List Q) (room : Nat) : Prop where
  p1 : p < w.heap.size
  fp : F p
  flt : ∀ k, F k → k < w.heap.size ∧ B ≤ k
  room : w.cell? ⟨p, 1, none⟩ = some (.int .i64 room)
  fz : ∀ o, w.frozen? ⟨p, o, none⟩ = false
  row : ∃ a c, w.cell? ⟨p, 0, none⟩ = some (.slice a l.length c) ∧ w.ownsRow B e 4 (.slice a l.length c) l.length (l.flatMap qc) ∧ ∀ g, (Value.slice a l.length c).ownBlock = some g → F g ∧ g ≠ p

theorem HA.keep {e : TypeId} {B : Nat} {w w' : World} {p : Nat} {F T : Nat → Prop} {l : List Q} {room : Nat} (h : HA e B w p F l room) (hf : Fr T w w') (hT : ∀ k, F k → ¬ T k) : HA e B w' p F l room where
  p1 := Nat.lt_of_lt_of_le h.p1 hf.size
  fp := h.fp
  flt := fun k hk => ⟨Nat.lt_of_lt_of_le (h.flt k hk).1 hf.size, (h.flt k hk).2⟩
  room := by rw [hf.cell (p := ⟨p, 1, none⟩) h.p1 (hT p h.fp)]; exact h.room
  fz := fun o => by rw [hf.frozen (p := ⟨p, o, none⟩) h.p1 (hT p h.fp)]; exact h.fz o
  row := by
    obtain ⟨a, c, h1, h2, h3⟩ := h.row
    exact ⟨a, c, by rw [hf.cell (p := ⟨p, 0, none⟩) h.p1 (hT p h.fp)]; exact h1, ownsRow_keep h2 fun k hk => hf.block k (h.flt k (h3 k hk).1).1 (hT k (h3 k hk).1), h3⟩
theorem HA.below {e : TypeId} {B : Nat} {w w' : World} {p : Nat} {F : Nat → Prop} {l : List Q} {room : Nat} (h : HA e B w p F l room) (hb : Below w.heap.size w w') : HA e B w' p F l room :=
  h.keep (Fr.of_below (S := fun _ => False) hb) (by simp)
theorem HA.drewN {e : TypeId} {B : Nat} {w : World} {p : Nat} {F : Nat → Prop} {l : List Q} {room : Nat} (h : HA e B w p F l room) (n : Nat) : HA e B (w.drewN n) p F l room :=
  h.keep (T := fun _ => False) ((Fr.refl _ _).drewN n) (by simp)

/-- One of the row is written. -/
theorem HA.set {e : TypeId} {B : Nat} {w : World} {p g c : Nat} {F : Nat → Prop} {l : List Q} {room : Nat} (h : HA e B w p F l room) (hc : w.cell? ⟨p, 0, none⟩ = some (.slice (some ⟨g, 0, none⟩) l.length c)) (i : Nat) (hi : i < l.length) (x : Q) :
    HA e B (set4 w g (i * 4) x) p F (l.set i x) room ∧ (set4 w g (i * 4) x).cell? ⟨p, 0, none⟩ = some (.slice (some ⟨g, 0, none⟩) l.length c) := by
  obtain ⟨a, c', h1, h2, h3⟩ := h.row
  rw [hc] at h1
  simp only [Option.some.injEq, Value.slice.injEq, true_and] at h1
  obtain ⟨rfl, rfl⟩ := h1
  have hgp : g ≠ p := (h3 g rfl).2
  have hf := set4_fr w g (i * 4) x
  have hcell : (set4 w g (i * 4) x).cell? ⟨p, 0, none⟩ = some (.slice (some ⟨g, 0, none⟩) l.length c) := by rw [hf.cell (p := ⟨p, 0, none⟩) h.p1 (fun e => hgp e.symm)]; exact hc
  refine ⟨⟨by rw [set4_size]; exact h.p1, h.fp, fun k hk => by rw [set4_size]; exact h.flt k hk, by rw [hf.cell (p := ⟨p, 1, none⟩) h.p1 (fun e => hgp e.symm)]; exact h.room, fun o => by rw [hf.frozen (p := ⟨p, o, none⟩) h.p1 (fun e => hgp e.symm)]; exact h.fz o, ?_⟩, hcell⟩
  rw [List.length_set]
  exact ⟨some ⟨g, 0, none⟩, c, hcell, ownsRow_set4 h2 rfl i hi x, h3⟩

/-- What is known of an element that is there. -/
theorem HA.at_ {e : TypeId} {B : Nat} {w : World} {p g c : Nat} {F : Nat → Prop} {l : List Q} {room : Nat} (h : HA e B w p F l room) (hc : w.cell? ⟨p, 0, none⟩ = some (.slice (some ⟨g, 0, none⟩) l.length c)) :
    (∀ j (hj : j < l.length), Q4 w g (j * 4) l[j]) ∧ (∀ o, w.frozen? ⟨g, o, none⟩ = false) ∧ g ≠ p ∧ F g ∧ l.length ≤ c ∧ c ≤ 9223372036854775807 := by
  obtain ⟨a, c', h1, h2, h3⟩ := h.row
  rw [hc] at h1
  simp only [Option.some.injEq, Value.slice.injEq, true_and] at h1
  obtain ⟨rfl, rfl⟩ := h1
  have hq := qs_of_own h2 rfl
  refine ⟨fun j hj => ?_, ?_, (h3 g rfl).2, (h3 g rfl).1, ?_⟩
  · obtain ⟨b, off, e, _, hcc⟩ := hq.2 (by omega)
    obtain ⟨g', cap', hv, _, _, _, hcell, _⟩ := ownsRow_cells h2 (by omega)
    simp only [Value.slice.injEq, Option.some.injEq, Addr.mk.injEq, true_and, and_true] at hv
    obtain ⟨rfl, rfl⟩ := hv
    have := fun k (hk : k < 4) => flat_at l j k hj hk
    exact ⟨hcell _ _ (this 0 (by omega)), hcell _ _ (this 1 (by omega)), hcell _ _ (this 2 (by omega)), hcell _ _ (this 3 (by omega))⟩
  · rcases h2.2 with ⟨hv, _⟩ | ⟨g', cap', cur, hv, hb, hh, _⟩
    · simp at hv
    · simp only [Value.slice.injEq, Option.some.injEq, Addr.mk.injEq, true_and, and_true] at hv
      obtain ⟨rfl, rfl⟩ := hv
      intro o
      simp [World.frozen?, hh]
  · rcases h2.2 with ⟨hv, _⟩ | ⟨g', cap', cur, hv, hb, hh, hn, hm, _⟩
    · simp at hv
    · simp only [Value.slice.injEq, Option.some.injEq, Addr.mk.injEq, true_and, and_true] at hv
      obtain ⟨rfl, rfl⟩ := hv
      exact ⟨hn, by unfold maxLen at hm; omega⟩

set_option maxHeartbeats 4000000 in
set_option maxRecDepth 100000 in
theorem swap_ne (p g c n i j : Nat) (x y : Q) (w : World) (hc : w.cell? ⟨p, 0, none⟩ = some (.slice (some ⟨g, 0, none⟩) n c)) (hi : i < n) (hj : j < n) (hn : n ≤ 9223372036854775807) (hij : i ≠ j)
    (hx : Q4 w g (i * 4) x) (hy : Q4 w g (j * 4) y) (fz : ∀ o, w.frozen? ⟨g, o, none⟩ = false) :
    Calls Try.prog 59 #[.pointer (some ⟨p, 0, none⟩), .int .i64 i, .int .i64 j] w fun e w' => e = .returned (.tuple #[]) ∧ ∃ q, w' = (set4 (set4 w g (i * 4) y) g (j * 4) x).drewN q := by
  obtain ⟨x0, x1, x2, x3⟩ := x
  obtain ⟨y0, y1, y2, y3⟩ := y
  obtain ⟨a0, a1, a2, a3⟩ := hx
  obtain ⟨b0, b1, b2, b3⟩ := hy
  simp only at a0 a1 a2 a3 b0 b1 b2 b3
  unfold set4
  simp only
  have fi0 := fz (i * 4)
  have fi1 := fz (i * 4 + 1)
  have fi2 := fz (i * 4 + 2)
  have fi3 := fz (i * 4 + 3)
  have fj0 := fz (j * 4)
  have fj1 := fz (j * 4 + 1)
  have fj2 := fz (j * 4 + 2)
  have fj3 := fz (j * 4 + 3)
  have hi0 : (0 : Int) ≤ (i : Int) := by omega
  have hj0 : (0 : Int) ≤ (j : Int) := by omega
  have hiI : (i : Int) < (n : Int) := by omega
  have hjI : (j : Int) < (n : Int) := by omega
  clear fz
  go_enter Try.func59, Try.ntmps59
  go_wp2_with fail
  go_region
  all_goals (go_wp2_with fail)
  all_goals go_end0
  all_goals exact ⟨rfl, 1, rfl⟩

set_option maxHeartbeats 4000000 in
set_option maxRecDepth 100000 in
theorem swap_eq (p g c n i : Nat) (x : Q) (w : World) (hc : w.cell? ⟨p, 0, none⟩ = some (.slice (some ⟨g, 0, none⟩) n c)) (hi : i < n) (hn : n ≤ 9223372036854775807)
    (hx : Q4 w g (i * 4) x) (fz : ∀ o, w.frozen? ⟨g, o, none⟩ = false) :
    Calls Try.prog 59 #[.pointer (some ⟨p, 0, none⟩), .int .i64 i, .int .i64 i] w fun e w' => e = .returned (.tuple #[]) ∧ ∃ q, w' = (set4 (set4 w g (i * 4) x) g (i * 4) x).drewN q := by
  obtain ⟨x0, x1, x2, x3⟩ := x
  obtain ⟨a0, a1, a2, a3⟩ := hx
  simp only at a0 a1 a2 a3
  unfold set4
  simp only
  have fi0 := fz (i * 4)
  have fi1 := fz (i * 4 + 1)
  have fi2 := fz (i * 4 + 2)
  have fi3 := fz (i * 4 + 3)
  have hi0 : (0 : Int) ≤ (i : Int) := by omega
  have hiI : (i : Int) < (n : Int) := by omega
  clear fz
  go_enter Try.func59, Try.ntmps59
  go_wp2_with fail
  go_region
  all_goals (go_wp2_with fail)
  all_goals go_end0
  all_goals exact ⟨rfl, 1, rfl⟩

theorem swap_h {e : TypeId} {B : Nat} {w : World} {p : Nat} {F : Nat → Prop} {l : List Q} {room : Nat} (h : HA e B w p F l room) (i j : Nat) (hi : i < l.length) (hj : j < l.length) :
    Calls Try.prog 59 #[.pointer (some ⟨p, 0, none⟩), .int .i64 i, .int .i64 j] w fun e' w' => e' = .returned (.tuple #[]) ∧ HA e B w' p F (swp l i j) room ∧ Fr F w w' := by
  obtain ⟨a, c, hc, ho, _⟩ := h.row
  obtain ⟨g, cap, hv, _⟩ := ownsRow_cells ho (by omega)
  simp only [Value.slice.injEq, true_and] at hv
  obtain ⟨rfl, _⟩ := hv
  obtain ⟨hq, hfz, hgp, hFg, hlc, hc9⟩ := h.at_ hc
  have fin : HA e B (set4 (set4 w g (i * 4) l[j]) g (j * 4) l[i]) p F (swp l i j) room ∧ Fr F w (set4 (set4 w g (i * 4) l[j]) g (j * 4) l[i]) := by
    obtain ⟨h1, hc1⟩ := h.set hc i hi l[j]
    have hl : (l.set i l[j]).length = l.length := List.length_set
    rw [← hl] at hc1
    obtain ⟨h2, _⟩ := h1.set hc1 j (by rw [hl]; exact hj) l[i]
    refine ⟨?_, ((set4_fr w g (i * 4) l[j]).trans (U := F) (set4_fr _ g (j * 4) l[i]) (by rintro k _ rfl; exact hFg) (by rintro k _ rfl; exact hFg))⟩
    unfold swp
    rw [at_eq l i hi, at_eq l j hj]
    exact h2
  by_cases hij : i = j
  · subst hij
    refine (swap_eq p g c l.length i l[i] w hc hi (by omega) (hq i hi) hfz).mono ?_
    rintro e' w' ⟨rfl, q, rfl⟩
    exact ⟨rfl, fin.1.drewN q, fin.2.drewN q⟩
  · refine (swap_ne p g c l.length i j l[i] l[j] w hc hi hj (by omega) hij (hq i hi) (hq j hj) hfz).mono ?_
    rintro e' w' ⟨rfl, q, rfl⟩
    exact ⟨rfl, fin.1.drewN q, fin.2.drewN q⟩
end Go.Proofs.Ytaogdgbijjjpjaa
