/- WALKS: New. -/
import Derived.Test.YtbcoiemjbbbmkaaW2
namespace Go.Proofs.Ytbcoiemjbbbmkaa
open Go.RowKit

set_option maxHeartbeats 400000 in
theorem containsFunc_any (B : Nat) (a : Option Addr) (n c : Nat) (xs : List Int) (w : World) (hx : IntsIn B w a n xs) (hn : n ≤ 9223372036854775807) :
    Calls Try.prog 16 #[.slice a n c, .func (.func 15) #[] #[]] w fun e w' => e = .returned (.bool (xs.any wrongN)) ∧ w = w' := by
  go_enter Try.func16, Try.ntmps16
  go_wp2_with (go_at_call 19; refine (indexFunc_any B a n c xs _ hx hn).mono ?_; rintro e w' ⟨⟨r, rfl, hr⟩, rfl⟩; have Hr := Lib.hid hr; clear hr)
  all_goals (go_ret; exact ⟨ret_bool (by rw [← Hr.out]), rfl⟩)

theorem Try.info45 : (Try.prog.info? 45).map (fun i => (i.zero, i.size, i.bytes)) = some (some (.agg #[.int .i64 0, .int .i64 0, .int .i64 0]), 3, 24) := by kernel_rfl

def badNew (n : Nat) (xs : List Int) : Bool := decide (n < 1 ∨ 16 < n) || xs.any wrongN

set_option maxHeartbeats 400000 in
theorem new_bad (B : Nat) (a : Option Addr) (n c : Nat) (xs : List Int) (w : World) (hx : IntsIn B w a n xs) (hn : n ≤ 9223372036854775807) (hb : badNew n xs = true) :
    Calls Try.prog 9 #[.slice a n c] w fun e w' => e = .returned (.tuple #[.pointer none, .int .i64 1]) ∧ w = w' := by
  have hc := fun w hx => containsFunc_any B a n c xs w hx hn
  by_cases h1 : n < 1 ∨ 16 < n
  · go_enter Try.func9, Try.ntmps9
    go_wp2_with fail
    all_goals (go_ret2; exact ⟨rfl, rfl⟩)
  · have hany : xs.any wrongN = true := by
      unfold badNew at hb
      rw [decide_eq_false h1] at hb
      simpa using hb
    rw [hany] at hc
    clear hb
    go_enter Try.func9, Try.ntmps9
    go_wp2_with (go_at_call 16; refine (hc _ hx).mono ?_; rintro e w' ⟨rfl, rfl⟩)
    all_goals (go_ret2; exact ⟨rfl, rfl⟩)

set_option maxHeartbeats 400000 in
theorem new_good (B : Nat) (a : Option Addr) (n c : Nat) (xs : List Int) (w : World) (hx : IntsIn B w a n xs) (hn : n ≤ 9223372036854775807) (hb : badNew n xs = false) (hB : B ≤ w.heap.size) :
    Calls Try.prog 9 #[.slice a n c] w fun e w' => (∃ p q cap, e = .returned (.tuple #[.pointer (some ⟨p, 0, none⟩), .int .i64 0]) ∧ GuardAt w' p q cap 0 (newGates xs) ∧ w.heap.size ≤ p ∧ w.heap.size ≤ q) ∧ Below w.heap.size w w' := by
  have hc := fun w hx => containsFunc_any B a n c xs w hx hn
  obtain ⟨h1, hany⟩ : ¬ (n < 1 ∨ 16 < n) ∧ xs.any wrongN = false := by simpa [badNew] using hb
  rw [hany] at hc
  clear hb
  have Hany := Lib.hid hany; clear hany
  have h2 : 1 ≤ n := by omega
  have h3 : n ≤ 16 := by omega
  go_enter Try.func9, Try.ntmps9
  go_wp2_with (go_at_call 16; refine (hc _ hx).mono ?_; rintro e w' ⟨rfl, rfl⟩)
  clear hc
  obtain ⟨i0, hi, hz0, hz1, hz2⟩ := info_parts Try.info45
  go_loopw [25] (fun i wr => ∃ (k : Nat) (v : Value), k ≤ n ∧ i = .int .i64 k ∧ wr.cell? ⟨w.heap.size, 0, none⟩ = some v ∧ wr.frozen? ⟨w.heap.size, 0, none⟩ = false ∧ wr.ownsRow (w.heap.size + 1) 45 3 v k ((newGates (xs.take k)).flatMap Gate.cells) ∧ w.heap.size + 1 ≤ wr.heap.size ∧ Below w.heap.size w wr)
    (fun i _ => n - (intOf i).toNat)
  case atStart =>
    refine ⟨0, .slice none 0 0, Nat.zero_le _, rfl, by simp, by simp, World.ownsRow_nil _ _ _ _, by simp, (Below.refl _ _).alloc (Nat.le_refl _) _⟩
  case round =>
    obtain ⟨k, v, hk, rfl, hv, hf, hown, hsz, hbel⟩ := hrel
    by_cases hlt : k < n
    · obtain ⟨b, off, rfl, hbB, hcc⟩ := (hx.keep (hbel.mono hB)).2 (by omega)
      have hxl := hx.1
      have c := hcc k (by omega)
      have ht : (newGates (xs.take (k + 1))).flatMap Gate.cells = (newGates (xs.take k)).flatMap Gate.cells ++ [.int .i64 xs[k], .int .i64 0, .int .i64 0] := by
        rw [List.take_succ_eq_append_getElem (by omega)]
        simp only [newGates, List.map_append, List.flatMap_append]
        rfl
      have Ht := Lib.hid ht; clear ht
      generalize xs[k] = x at *
      have Hx := Lib.hid hx
      clear hx hcc
      have hz3 : wr.heap.size < (wr.alloc (.cells #[.int .i64 x, .int .i64 0, .int .i64 0] 45)).heap.size := by simp
      go_wp2_with (at_builtin; refine wpList_append_own _ rfl _ _ 41 rfl (w.heap.size + 1) 45 i0 (.agg #[.int .i64 0, .int .i64 0, .int .i64 0]) 3 24 Try.underlying41 hi hz0 hz1 hz2 rfl (by decide) _ _ _ rfl (hown.alloc _) ⟨wr.heap.size, 0, none⟩ 1 1 [.int .i64 x, .int .i64 0, .int .i64 0] rfl rfl ?c1 ?c2 ?c3 ?c4 ?c5 ?_)
      case c1 =>
        exact fun j u hu => cell_new _ _ _ j u hu
      case c2 => intro u hu; simp at hu; rcases hu with rfl | rfl <;> rfl
      case c3 => unfold maxLen; omega
      case c4 => omega
      case c5 => simp; omega
      intro v' w1 hown1 hgrow _
      obtain ⟨g1, cap1, rfl, _⟩ := ownsRow_cells hown1 (by omega)
      have hbel1 : Below (w.heap.size + 1) wr w1 := (((Below.refl _ _).alloc hsz _).grown hgrow (by simp; omega) (fun j e => ownsRow_block hown j e))
      have hv1 : w1.cell? ⟨w.heap.size, 0, none⟩ = some v := by rw [hbel1.cell (by simp)]; exact hv
      have hf1 : w1.frozen? ⟨w.heap.size, 0, none⟩ = false := by rw [hbel1.frozen (by simp)]; exact hf
      clear hv hf hown hgrow hz3
      rw [← Ht.out] at hown1
      go_wp2_with fail
      go_roundw
      case rel => exact ⟨k + 1, _, by omega, by go_num, World.cell?_setCell_same _ _ _ hv1, by rw [World.frozen?_setCell]; exact hf1, ownsRow_setCell_below hown1 (by simp) _, by have := hbel1.size; simp [World.setCell]; omega, (hbel.trans (hbel1.mono (by omega))).setCell (by simp) _⟩
      case measure => simp [intOf]; omega
    · go_wp2_with fail
      obtain rfl : k = n := by omega
      have hxl := hx.1
      rw [List.take_of_length_le (by omega)] at hown
      have hN : (newGates xs).length = k := by simp [newGates, hxl]
      have hr : ∀ g ∈ newGates xs, 1 ≤ g.apart ∧ g.apart ≤ 1048576 ∧ 0 ≤ g.opn ∧ g.opn ≤ 1099512676352 ∧ 0 ≤ g.count ∧ g.count ≤ (0 : Nat) := by
        intro g hg
        simp only [newGates, List.mem_map] at hg
        obtain ⟨x, hx, rfl⟩ := hg
        have := List.any_eq_false.1 Hany.out x hx
        simp [wrongN] at this
        simp; omega
      obtain ⟨q, cap, hG, hq⟩ := GuardAt.made hv hf (by omega) (by omega) (hN.symm ▸ hown) (by omega) (by omega) hr
      go_ret2
      exact ⟨⟨_, q, cap, rfl, hG, by omega, by omega⟩, hbel⟩
end Go.Proofs.Ytbcoiemjbbbmkaa
