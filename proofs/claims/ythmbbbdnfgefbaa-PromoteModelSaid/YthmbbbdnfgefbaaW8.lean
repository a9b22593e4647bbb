/- ONE WHEEL that a statement made; the statement's own helpers. -/
import Derived.Test.YthmbbbdnfgefbaaW7
namespace Go.Proofs.Ythmbbbdnfgefbaa
open Go.RowKit
set_option linter.unusedVariables false

/-- A wheel that was made since w0; of what lay in w0 nothing has turned. -/
def WO (w0 w : World) (p room : Nat) (now : Int) (m : List (Int × Int)) : Prop := (∃ F, WH w0.heap.size w p F room now m) ∧ Below w0.heap.size w0 w

theorem fr_below {w0 w w' : World} {F : Nat → Prop} (hb : Below w0.heap.size w0 w) (hf : Fr F w w') (hF : ∀ k, F k → w0.heap.size ≤ k) : Below w0.heap.size w0 w' :=
  hb.trans (hf.below (fun k _ hk => hF k hk) hb.size)

theorem WO.below {w0 w w' : World} {p room : Nat} {now : Int} {m : List (Int × Int)} (h : WO w0 w p room now m) (hb : Below w.heap.size w w') : WO w0 w' p room now m := by
  obtain ⟨⟨F, h1⟩, h2⟩ := h
  exact ⟨⟨F, h1.below hb⟩, h2.trans (hb.mono h2.size)⟩
theorem WO.drewN {w0 w : World} {p room : Nat} {now : Int} {m : List (Int × Int)} (h : WO w0 w p room now m) (n : Nat) : WO w0 (w.drewN n) p room now m :=
  h.below ⟨rfl, rfl, rfl, Nat.le_refl _, fun _ _ => rfl⟩

theorem WO.new {w0 w : World} (hb : Below w0.heap.size w0 w) (room : Nat) (h1 : 1 ≤ room) (h2 : room ≤ 1024) :
    Calls Try.prog 13 #[.int .i64 room] w fun e w' => ∃ p, e = .returned (.tuple #[.pointer (some ⟨p, 0, none⟩), .int .i64 0]) ∧ WO w0 w' p room 0 [] :=
  (new_m w0.heap.size room w h1 h2 hb.size).mono fun _ _ ⟨⟨p, F, he, hW, _⟩, hb'⟩ => ⟨p, he, ⟨F, hW⟩, hb.trans (hb'.mono hb.size)⟩

theorem WO.add {w0 w : World} {p room : Nat} {now : Int} {m : List (Int × Int)} (h : WO w0 w p room now m) (a i : Int) :
    Calls Try.prog 15 #[.pointer (some ⟨p, 0, none⟩), .agg #[.int .i64 a, .int .i64 i]] w fun e w' => e = .returned (.int .i64 (addM now room m (a, i)).1) ∧ WO w0 w' p room now (addM now room m (a, i)).2 := by
  obtain ⟨⟨F, h1⟩, h2⟩ := h
  exact (add_m h1 h2.size (a, i)).mono fun _ _ ⟨he, F', hW, _, hf⟩ => ⟨he, ⟨F', hW⟩, fr_below h2 hf fun k hk => (h1.flt k hk).2⟩

theorem WO.add_is {w0 w : World} {p room : Nat} {now : Int} {m m' : List (Int × Int)} {a i r : Int} (h : WO w0 w p room now m) (hE : addM now room m (a, i) = (r, m')) :
    Calls Try.prog 15 #[.pointer (some ⟨p, 0, none⟩), .agg #[.int .i64 a, .int .i64 i]] w fun e w' => e = .returned (.int .i64 r) ∧ WO w0 w' p room now m' := by
  have := h.add a i
  rw [hE] at this; exact this

theorem WO.cancel {w0 w : World} {p room : Nat} {now : Int} {m : List (Int × Int)} (h : WO w0 w p room now m) (id : Int) :
    Calls Try.prog 16 #[.pointer (some ⟨p, 0, none⟩), .int .i64 id] w fun e w' => e = .returned (.bool (m.any fun d => d.2 == id)) ∧ WO w0 w' p room now (m.filter fun d => !(d.2 == id)) := by
  obtain ⟨⟨F, h1⟩, h2⟩ := h
  exact (cancel_m h1 h2.size id).mono fun _ _ ⟨he, F', hW, _, hf⟩ => ⟨he, ⟨F', hW⟩, fr_below h2 hf fun k hk => (h1.flt k hk).2⟩

theorem WO.adv_bad {w0 w : World} {p room : Nat} {now : Int} {m : List (Int × Int)} (h : WO w0 w p room now m) (t : Int) (hb : t < now ∨ 1099511627776 < t) :
    Calls Try.prog 17 #[.pointer (some ⟨p, 0, none⟩), .int .i64 t] w fun e w' => e = .returned (.tuple #[.slice none 0 0, .int .i64 1]) ∧ WO w0 w' p room now m ∧ Below w.heap.size w w' := by
  have h' := h
  obtain ⟨⟨F, h1⟩, h2⟩ := h
  exact (advance_bad_m h1 t hb).mono fun _ _ ⟨he, hb⟩ => ⟨he, h'.below hb, hb⟩

theorem WO.adv {w0 w : World} {p room : Nat} {now : Int} {m : List (Int × Int)} (h : WO w0 w p room now m) (t : Int) (h1 : now ≤ t) (h2 : t ≤ 1099511627776) :
    Calls Try.prog 17 #[.pointer (some ⟨p, 0, none⟩), .int .i64 t] w fun e w' => ∃ (a : Option Addr) (c : Nat), e = .returned (.tuple #[.slice a (m.filter fun d => decide (d.1 ≤ t)).length c, .int .i64 0]) ∧
      w'.ownsRow w.heap.size 30 2 (.slice a (m.filter fun d => decide (d.1 ≤ t)).length c) (m.filter fun d => decide (d.1 ≤ t)).length ((m.filter fun d => decide (d.1 ≤ t)).flatMap dueC) ∧
      (∃ F', WH w0.heap.size w' p F' room t (m.filter fun d => !decide (d.1 ≤ t)) ∧ ∀ k, (Value.slice a (m.filter fun d => decide (d.1 ≤ t)).length c).ownBlock = some k → ¬ F' k) ∧ Below w0.heap.size w0 w' := by
  obtain ⟨⟨F, h3⟩, h4⟩ := h
  refine (advance_m h3 h4.size t h1 h2).mono ?_
  rintro e w' ⟨v, F', rfl, hown, hW, hF, hv, hf, _⟩
  obtain ⟨a, c, rfl⟩ := ownsRow_form hown
  exact ⟨a, c, rfl, hown, ⟨F', hW, hv⟩, fr_below h4 hf fun k hk => (h3.flt k hk).2⟩

theorem WO.next {w0 w : World} {p room : Nat} {now : Int} {m : List (Int × Int)} (h : WO w0 w p room now m) :
    Calls Try.prog 19 #[.pointer (some ⟨p, 0, none⟩)] w fun e w' => e = .returned (.tuple #[.int .i64 (nextM m).1, .bool (nextM m).2]) ∧ WO w0 w' p room now m := by
  have h' := h
  obtain ⟨⟨F, h1⟩, h2⟩ := h
  exact (next_m h1).mono fun _ _ ⟨he, hb⟩ => ⟨he, h'.below hb⟩

theorem WO.now {w0 w : World} {p room : Nat} {now : Int} {m : List (Int × Int)} (h : WO w0 w p room now m) :
    Calls Try.prog 20 #[.pointer (some ⟨p, 0, none⟩)] w fun e w' => e = .returned (.int .i64 now) ∧ w = w' := by
  obtain ⟨⟨F, h1⟩, h2⟩ := h
  exact now_m h1

theorem WO.len {w0 w : World} {p room : Nat} {now : Int} {m : List (Int × Int)} (h : WO w0 w p room now m) :
    Calls Try.prog 21 #[.pointer (some ⟨p, 0, none⟩)] w fun e w' => e = .returned (.int .i64 m.length) ∧ w = w' := by
  obtain ⟨⟨F, h1⟩, h2⟩ := h
  exact len_m h1

set_option maxHeartbeats 2000000 in
set_option maxRecDepth 100000 in
theorem awake_any (w : World) : Calls Try.prog 12 #[] w fun e w' => e = .returned (.bool true) ∧ Below w.heap.size w w' := by
  go_enter Try.func12, Try.ntmps12
  go_wp2_with fail
  refine (WO.new (w0 := w) (Below.refl _ _) 2 (by omega) (by omega)).mono ?_
  rintro e w1 ⟨p, rfl, h1⟩
  go_wp2_with fail
  refine (h1.add_is (r := 0) (m' := [(5, 1)]) (by decide)).mono ?_
  rintro e w2 ⟨rfl, h2⟩
  go_wp2_with fail
  refine (h2.add_is (r := 7) (m' := [(5, 1)]) (by decide)).mono ?_
  rintro e w3 ⟨rfl, h3⟩
  go_wp2_with fail
  refine (h3.adv 4 (by omega) (by omega)).mono ?_
  rintro e w4 ⟨a4, c4, rfl, _, ⟨F4, hW4, _⟩, hb4⟩
  have h4 : WO w w4 p 2 4 [(5, 1)] := ⟨⟨F4, hW4⟩, hb4⟩
  go_wp2_with fail
  refine h4.next.mono ?_
  rintro e w5 ⟨rfl, h5⟩
  go_wp2_with fail
  refine (h5.adv 5 (by omega) (by omega)).mono ?_
  rintro e w6 ⟨a6, c6, rfl, hown6, ⟨F6, hW6, _⟩, hb6⟩
  have h6 : WO w w6 p 2 5 [] := ⟨⟨F6, hW6⟩, hb6⟩
  have hown6' : w6.ownsRow w5.heap.size 30 2 (.slice a6 1 c6) 1 [.int .i64 5, .int .i64 1] := hown6
  obtain ⟨g, cap, hv, _, hg, _, hcell, _⟩ := ownsRow_cells hown6' (by omega)
  simp only [Value.slice.injEq] at hv
  obtain ⟨rfl, _, rfl⟩ := hv
  have cc := hcell 1 _ rfl
  go_wp2_with fail
  refine (h6.adv_bad 4 (by omega)).mono ?_
  rintro e w7 ⟨rfl, h7, hb7⟩
  have cc7 : w7.cell? ⟨g, 1, none⟩ = some (.int .i64 1) := by rw [hb7.cell (p := ⟨g, 1, none⟩) hg]; exact cc
  go_wp2_with fail
  refine h7.now.mono ?_
  rintro e w8 ⟨rfl, rfl⟩
  go_wp2_with fail
  refine h7.len.mono ?_
  rintro e w8 ⟨rfl, rfl⟩
  go_wp2_with fail
  refine (h7.cancel 1).mono ?_
  rintro e w8 ⟨rfl, h8⟩
  go_wp2_with fail
  go_ret
  exact ⟨rfl, h8.2⟩
end Go.Proofs.Ythmbbbdnfgefbaa
