/- WALKS: the heap's other functions. -/
import Derived.Test.YtaogdgbijjjpjaaW5
import Derived.Deep.AppendLies
import Derived.Shelf.Abstract
namespace Go.Proofs.Ytaogdgbijjjpjaa
open Go.RowKit
set_option linter.unusedVariables false

theorem Try.info23 : (Try.prog.info? 23).map (fun i => (i.zero, i.size, i.bytes)) = some (some (.agg #[.int .i64 0, .int .i64 0, .int .i64 0, .int .i64 0]), 4, 32) := by kernel_rfl

set_option maxHeartbeats 400000 in
theorem placePred_any (x : Q) (id : Int) (Bc : Nat) (w : World) (hc : w.cell? ⟨Bc, 0, none⟩ = some (.int .i64 id)) :
    Calls Try.prog 58 (#[qv x] ++ #[.pointer (some ⟨Bc, 0, none⟩)]) w fun e w' => e = .returned (.bool (x.2.2.2 == id)) ∧ Below w.heap.size w w' := by
  obtain ⟨x0, x1, x2, x3⟩ := x
  have hc' : (w.alloc (.cells #[.int .i64 x0, .int .i64 x1, .int .i64 x2, .int .i64 x3] 23)).cell? ⟨Bc, 0, none⟩ = some (.int .i64 id) := by rw [World.cell?_alloc_lt w _ _ (block_lt hc)]; exact hc
  show Calls Try.prog 58 #[.agg #[.int .i64 x0, .int .i64 x1, .int .i64 x2, .int .i64 x3], .pointer (some ⟨Bc, 0, none⟩)] w _
  go_enter Try.func58, Try.ntmps58
  go_wp2_with fail
  go_ret
  exact ⟨rfl, (Below.refl _ _).alloc (Nat.le_refl _) _⟩

theorem HA.len_le {e : TypeId} {B : Nat} {w : World} {p : Nat} {F : Nat → Prop} {l : List Q} {room : Nat} (h : HA e B w p F l room) : l.length ≤ 9223372036854775807 := by
  obtain ⟨a, c, hc, ho, _⟩ := h.row
  rcases ho.2 with ⟨_, h0⟩ | ⟨g, cap, cur, hv, _, _, hn, hm, _⟩
  · omega
  · unfold maxLen at hm; omega

set_option maxHeartbeats 400000 in
theorem place_any {B : Nat} {w : World} {p : Nat} {F : Nat → Prop} {l : List Q} {room : Nat} (h : HA 23 B w p F l room) (id : Int) :
    Calls Try.prog 42 #[.pointer (some ⟨p, 0, none⟩), .int .i64 id] w fun e w' => (∃ r : Int, e = .returned (.int .i64 r) ∧ Idx (fun x => x.2.2.2 == id) l r) ∧ Below w.heap.size w w' := by
  obtain ⟨a, c, hc, ho, _⟩ := h.row
  have hll := h.len_le
  have hb1 : Below w.heap.size w (w.alloc (.cells #[.int .i64 id] 3)) := (Below.refl _ _).alloc (Nat.le_refl _) _
  have hq := (qs_of_own ho rfl).keep hb1
  have hc' : (w.alloc (.cells #[.int .i64 id] 3)).cell? ⟨p, 0, none⟩ = some (.slice a l.length c) := (hb1.cell (p := ⟨p, 0, none⟩) (block_lt (a := ⟨p, 0, none⟩) hc)).trans hc
  have hid := cell_newb w #[.int .i64 id] 3 _ 0 _ rfl rfl
  have hsz : w.heap.size < (w.alloc (.cells #[.int .i64 id] 3)).heap.size := by simp
  have eg : ∀ args w, (callFunc 58 args).run Try.prog w = .ok (.enter 58 args) w := enters_of Try.func58 (by kernel_rfl) rfl
  have C := Lib.hid (idxK_any w.heap.size a l.length c l (fun x => x.2.2.2 == id) 58 #[.pointer (some ⟨w.heap.size, 0, none⟩)] (w.alloc (.cells #[.int .i64 id] 3)) eg hq (by omega) hll
    (fun W hW x => placePred_any x id w.heap.size W ((hW.cell (p := ⟨w.heap.size, 0, none⟩) hsz).trans hid)))
  have Hb1 := Lib.hid hb1
  clear eg hq ho hc hid hb1
  go_enter Try.func42, Try.ntmps42
  go_wp2_with fail
  refine C.out.mono ?_
  rintro e w2 ⟨⟨r, rfl, hr⟩, hb2⟩
  have Hr := Lib.hid hr; clear hr
  go_wp2_with fail
  go_ret
  exact ⟨⟨r, rfl, Hr.out⟩, Hb1.out.trans (hb2.mono (by omega))⟩

theorem hnew_bad (room : Int) (w : World) (h : room < 1 ∨ 1024 < room) :
    Calls Try.prog 17 #[.int .i64 room] w fun e w' => e = .returned (.tuple #[.pointer none, .int .i64 1]) ∧ w = w' := by
  by_cases h1 : room < 1
  all_goals
    go_enter Try.func17, Try.ntmps17
    go_wp2_with fail
    go_ret2
    exact ⟨rfl, rfl⟩

theorem hnew_good (B room : Nat) (w : World) (h1 : 1 ≤ room) (h2 : room ≤ 1024) (hB : B ≤ w.heap.size) :
    Calls Try.prog 17 #[.int .i64 room] w fun e w' => (∃ p F, e = .returned (.tuple #[.pointer (some ⟨p, 0, none⟩), .int .i64 0]) ∧ HA 23 B w' p F [] room ∧ (∀ k, F k → w.heap.size ≤ k)) ∧ Below w.heap.size w w' := by
  go_enter Try.func17, Try.ntmps17
  go_wp2_with fail
  go_ret2
  refine ⟨⟨w.heap.size, (· = w.heap.size), rfl, ⟨by simp, rfl, fun k hk => by subst hk; simp [hB], cell_newb _ _ _ _ 1 _ rfl rfl, fun o => by simp, none, 0, cell_newb _ _ _ _ 0 _ rfl rfl, World.ownsRow_nil _ _ _ _, by simp [Value.ownBlock]⟩, fun k hk => by omega⟩, (Below.refl _ _).alloc (Nat.le_refl _) _⟩

theorem hlen_any {B : Nat} {w : World} {p : Nat} {F : Nat → Prop} {l : List Q} {room : Nat} (h : HA 23 B w p F l room) :
    Calls Try.prog 22 #[.pointer (some ⟨p, 0, none⟩)] w fun e w' => e = .returned (.int .i64 l.length) ∧ w = w' := by
  obtain ⟨a, c, hc, _⟩ := h.row
  have hll := h.len_le
  clear h
  go_enter Try.func22, Try.ntmps22
  go_wp2_with fail
  go_ret
  exact ⟨rfl, rfl⟩

def peekL (l : List Q) : Q × Bool := match l with | [] => ((0, 0, 0, 0), false) | x :: _ => (x, true)

set_option maxHeartbeats 1000000 in
theorem peek_any {B : Nat} {w : World} {p : Nat} {F : Nat → Prop} {l : List Q} {room : Nat} (h : HA 23 B w p F l room) :
    Calls Try.prog 28 #[.pointer (some ⟨p, 0, none⟩)] w fun e w' => e = .returned (.tuple #[qv (peekL l).1, .bool (peekL l).2]) ∧ Below w.heap.size w w' := by
  obtain ⟨a, c, hc, ho, _⟩ := h.row
  have hp1 := h.p1
  have hll := h.len_le
  have hb1 : ∀ o, Below w.heap.size w (w.alloc o) := fun o => (Below.refl _ _).alloc (Nat.le_refl _) _
  have hc' : ∀ o, (w.alloc o).cell? ⟨p, 0, none⟩ = some (.slice a l.length c) := fun o => ((hb1 o).cell (p := ⟨p, 0, none⟩) (block_lt (a := ⟨p, 0, none⟩) hc)).trans hc
  cases l with
  | nil =>
    unfold qv peekL
    clear h ho hb1
    go_enter Try.func28, Try.ntmps28
    go_wp2_with fail
    exact bodyPost_ret (v := .tuple #[.agg #[.int .i64 0, .int .i64 0, .int .i64 0, .int .i64 0], .bool false]) (by simp [results, Try.results28, go_sem]) rfl ⟨rfl, (Below.refl _ _).alloc (Nat.le_refl _) _⟩
  | cons x l =>
    obtain ⟨g, cap, hv, _, hg, _⟩ := ownsRow_cells ho (by simp)
    simp only [Value.slice.injEq, true_and] at hv
    obtain ⟨rfl, _⟩ := hv
    have hx := (h.at_ hc).1 0 (by simp)
    simp only [List.getElem_cons_zero, Nat.zero_mul] at hx
    obtain ⟨x0, x1, x2, x3⟩ := x
    obtain ⟨c0, c1, c2, c3⟩ := hx
    simp only [Nat.zero_add] at c0 c1 c2 c3
    have d0 : ∀ o, (w.alloc o).cell? ⟨g, 0, none⟩ = some (.int .i64 x0) := fun o => ((hb1 o).cell (p := ⟨g, 0, none⟩) hg).trans c0
    have d1 : ∀ o, (w.alloc o).cell? ⟨g, 1, none⟩ = some (.int .i64 x1) := fun o => ((hb1 o).cell (p := ⟨g, 1, none⟩) hg).trans c1
    have d2 : ∀ o, (w.alloc o).cell? ⟨g, 2, none⟩ = some (.int .i64 x2) := fun o => ((hb1 o).cell (p := ⟨g, 2, none⟩) hg).trans c2
    have d3 : ∀ o, (w.alloc o).cell? ⟨g, 3, none⟩ = some (.int .i64 x3) := fun o => ((hb1 o).cell (p := ⟨g, 3, none⟩) hg).trans c3
    unfold qv peekL
    clear h ho hb1
    have hlI2 : (0 : Int) < (l.length : Int) + 1 := by omega
    go_enter Try.func28, Try.ntmps28
    go_wp2_with fail
    exact bodyPost_ret (v := .tuple #[.agg #[.int .i64 x0, .int .i64 x1, .int .i64 x2, .int .i64 x3], .bool true]) (by simp [results, Try.results28, go_sem]) rfl ⟨rfl, (Below.refl _ _).alloc (Nat.le_refl _) _⟩
end Go.Proofs.Ytaogdgbijjjpjaa
