/- WALKS: IndexFunc over fours. Printed by wip/tools/hs_gen.py. -/
import Derived.Test.YtaogdgbijjjpjaaW1
namespace Go.Proofs.Ytaogdgbijjjpjaa
open Go.RowKit
set_option linter.unusedVariables false

/-- The place of the first that is meant; -1: there is none. -/
def Idx (pr : Q → Bool) (l : List Q) (r : Int) : Prop :=
  (r = -1 ∧ ∀ j (h : j < l.length), pr l[j] = false) ∨ ∃ q : Nat, ∃ h : q < l.length, r = (q : Int) ∧ pr l[q] = true ∧ ∀ j (hj : j < l.length), j < q → pr l[j] = false
theorem Idx.any {pr : Q → Bool} {l : List Q} {r : Int} (h : Idx pr l r) : decide (0 ≤ r) = l.any pr := by
  rcases h with ⟨rfl, h⟩ | ⟨q, hq, rfl, h, _⟩
  · have : l.any pr = false := List.any_eq_false.2 fun x hx => by
      obtain ⟨j, hj, rfl⟩ := List.mem_iff_getElem.1 hx
      rw [h j hj]; simp
    rw [this]; rfl
  · have : l.any pr = true := List.any_eq_true.2 ⟨_, List.getElem_mem hq, h⟩
    rw [this]; simp

set_option maxHeartbeats 1000000 in
theorem idxK_any (B : Nat) (a : Option Addr) (n c : Nat) (l : List Q) (pr : Q → Bool) (g : Nat) (lb : Array Value) (w : World) (eg : ∀ args w, (callFunc g args).run Try.prog w = .ok (.enter g args) w) (hx : QsIn B w a n l) (hB : B ≤ w.heap.size) (hn : n ≤ 9223372036854775807)
    (hp : ∀ W, Below w.heap.size w W → ∀ x, Calls Try.prog g (#[qv x] ++ lb) W fun e w' => e = .returned (.bool (pr x)) ∧ Below W.heap.size W w') :
    Calls Try.prog 57 #[.slice a n c, .func (.func g) #[] lb] w fun e w' => (∃ r : Int, e = .returned (.int .i64 r) ∧ Idx pr l r) ∧ Below w.heap.size w w' := by
  have hlen := hx.1
  have HP := Lib.hid hp; clear hp
  go_enter Try.func57, Try.ntmps57
  go_wp2_with fail
  go_loopw [8] (fun i wr => ∃ k : Nat, k ≤ n ∧ i = .int .i64 k ∧ Hid (∀ j (h : j < l.length), j < k → pr l[j] = false) ∧ Below w.heap.size w wr) (fun i _ => n - (intOf i).toNat)
  case atStart => exact ⟨0, Nat.zero_le _, rfl, fun j h hj => by omega, Below.refl _ _⟩
  case round =>
    obtain ⟨k, hk, rfl, Hall, hb⟩ := hrel
    by_cases hlt : k < n
    · obtain ⟨b, off, rfl, hbB, hcc⟩ := (hx.keep (hb.mono hB)).2 (by omega)
      have hq := hcc k (by omega)
      have P := HP.out wr hb l[k]
      have HY : Hid (pr l[k] = true → Idx pr l (k : Int)) := fun h => .inr ⟨k, by omega, rfl, h, fun j hj hjk => Hall.out j hj hjk⟩
      have HN : Hid (pr l[k] = false → ∀ j (h : j < l.length), j < k + 1 → pr l[j] = false) := by
        intro h j hj hjk
        rcases Nat.lt_or_ge j k with h' | h'
        · exact Hall.out j hj h'
        · obtain rfl : j = k := by omega
          exact h
      obtain ⟨c0, c1, c2, c3⟩ := hq
      unfold qv at P
      generalize hpk : pr l[k] = pk at *
      generalize l[k].1 = x0 at *
      generalize l[k].2.1 = x1 at *
      generalize l[k].2.2.1 = x2 at *
      generalize l[k].2.2.2 = x3 at *
      have Hx := Lib.hid hx
      have hkI : (k : Int) < (n : Int) := by omega
      clear hx hcc hpk
      have HPk := Lib.hid P; clear P
      cases pk
      · have HN' := Lib.hid (HN.out rfl)
        clear HN HY
        go_wp2_with fail
        refine HPk.out.mono ?_
        rintro e w2 ⟨rfl, hb2⟩
        go_wp2_with fail
        go_roundw
        case rel => exact ⟨k + 1, by omega, by go_num, HN', hb.trans (hb2.mono hb.size)⟩
        case measure => simp [intOf]; omega
      · have HY' := Lib.hid (HY.out rfl)
        clear HN HY
        go_wp2_with fail
        refine HPk.out.mono ?_
        rintro e w2 ⟨rfl, hb2⟩
        go_wp2_with fail
        go_ret
        exact ⟨⟨_, rfl, HY'.out⟩, hb.trans (hb2.mono hb.size)⟩
    · go_wp2_with fail
      go_ret
      exact ⟨⟨_, rfl, .inl ⟨rfl, fun j hj => Hall.out j hj (by omega)⟩⟩, hb⟩

set_option maxHeartbeats 1000000 in
theorem idxS_any (B : Nat) (a : Option Addr) (n c : Nat) (l : List Q) (pr : Q → Bool) (g : Nat) (lb : Array Value) (w : World) (eg : ∀ args w, (callFunc g args).run Try.prog w = .ok (.enter g args) w) (hx : QsIn B w a n l) (hB : B ≤ w.heap.size) (hn : n ≤ 9223372036854775807)
    (hp : ∀ W, Below w.heap.size w W → ∀ x, Calls Try.prog g (#[qv x] ++ lb) W fun e w' => e = .returned (.bool (pr x)) ∧ Below W.heap.size W w') :
    Calls Try.prog 65 #[.slice a n c, .func (.func g) #[] lb] w fun e w' => (∃ r : Int, e = .returned (.int .i64 r) ∧ Idx pr l r) ∧ Below w.heap.size w w' := by
  have hlen := hx.1
  have HP := Lib.hid hp; clear hp
  go_enter Try.func65, Try.ntmps65
  go_wp2_with fail
  go_loopw [8] (fun i wr => ∃ k : Nat, k ≤ n ∧ i = .int .i64 k ∧ Hid (∀ j (h : j < l.length), j < k → pr l[j] = false) ∧ Below w.heap.size w wr) (fun i _ => n - (intOf i).toNat)
  case atStart => exact ⟨0, Nat.zero_le _, rfl, fun j h hj => by omega, Below.refl _ _⟩
  case round =>
    obtain ⟨k, hk, rfl, Hall, hb⟩ := hrel
    by_cases hlt : k < n
    · obtain ⟨b, off, rfl, hbB, hcc⟩ := (hx.keep (hb.mono hB)).2 (by omega)
      have hq := hcc k (by omega)
      have P := HP.out wr hb l[k]
      have HY : Hid (pr l[k] = true → Idx pr l (k : Int)) := fun h => .inr ⟨k, by omega, rfl, h, fun j hj hjk => Hall.out j hj hjk⟩
      have HN : Hid (pr l[k] = false → ∀ j (h : j < l.length), j < k + 1 → pr l[j] = false) := by
        intro h j hj hjk
        rcases Nat.lt_or_ge j k with h' | h'
        · exact Hall.out j hj h'
        · obtain rfl : j = k := by omega
          exact h
      obtain ⟨c0, c1, c2, c3⟩ := hq
      unfold qv at P
      generalize hpk : pr l[k] = pk at *
      generalize l[k].1 = x0 at *
      generalize l[k].2.1 = x1 at *
      generalize l[k].2.2.1 = x2 at *
      generalize l[k].2.2.2 = x3 at *
      have Hx := Lib.hid hx
      have hkI : (k : Int) < (n : Int) := by omega
      clear hx hcc hpk
      have HPk := Lib.hid P; clear P
      cases pk
      · have HN' := Lib.hid (HN.out rfl)
        clear HN HY
        go_wp2_with fail
        refine HPk.out.mono ?_
        rintro e w2 ⟨rfl, hb2⟩
        go_wp2_with fail
        go_roundw
        case rel => exact ⟨k + 1, by omega, by go_num, HN', hb.trans (hb2.mono hb.size)⟩
        case measure => simp [intOf]; omega
      · have HY' := Lib.hid (HY.out rfl)
        clear HN HY
        go_wp2_with fail
        refine HPk.out.mono ?_
        rintro e w2 ⟨rfl, hb2⟩
        go_wp2_with fail
        go_ret
        exact ⟨⟨_, rfl, HY'.out⟩, hb.trans (hb2.mono hb.size)⟩
    · go_wp2_with fail
      go_ret
      exact ⟨⟨_, rfl, .inl ⟨rfl, fun j hj => Hall.out j hj (by omega)⟩⟩, hb⟩

end Go.Proofs.Ytaogdgbijjjpjaa
