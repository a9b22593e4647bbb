/- WALKS: the reference's Find, Same. -/
import Derived.Test.YtaogdgbijjjpjaaCmpW
namespace Go.Proofs.Ytaogdgbijjjpjaa
open Go.RowKit
set_option linter.unusedVariables false

set_option maxHeartbeats 1000000 in
theorem find_any (B : Nat) (a : Option Addr) (n c : Nat) (l : List Q) (id : Int) (w : World) (hx : QsIn B w a n l) (hB : B ≤ w.heap.size) (hn : n ≤ 9223372036854775807) :
    Calls Try.prog 24 #[.slice a n c, .int .i64 id] w fun e w' => (∃ r : Int, e = .returned (.int .i64 r) ∧ Idx (fun x => x.2.2.2 == id) l r) ∧ Below w.heap.size w w' := by
  have hlen := hx.1
  go_enter Try.func24, Try.ntmps24
  go_wp2_with fail
  go_loopw [5] (fun i wr => ∃ k : Nat, k ≤ n ∧ i = .int .i64 k ∧ Hid (∀ j (h : j < l.length), j < k → (l[j].2.2.2 == id) = false) ∧ Below w.heap.size w wr) (fun i _ => n - (intOf i).toNat)
  case atStart => exact ⟨0, by omega, rfl, fun j h hj => by omega, Below.refl _ _⟩
  case round =>
    obtain ⟨k, hk, rfl, Hall, hb⟩ := hrel
    by_cases hlt : k < n
    · obtain ⟨b, off, rfl, hbB, hcc⟩ := (hx.keep (hb.mono hB)).2 (by omega)
      have c3 := (hcc k (by omega)).c3
      have HY : Hid (l[k].2.2.2 = id → Idx (fun x => x.2.2.2 == id) l (k : Int)) := fun h => .inr ⟨k, by omega, rfl, by simp [h], fun j hj hjk => Hall.out j hj hjk⟩
      have HN : Hid (l[k].2.2.2 ≠ id → ∀ j (h : j < l.length), j < k + 1 → (l[j].2.2.2 == id) = false) := by
        intro h j hj hjk
        rcases Nat.lt_or_ge j k with h' | h'
        · exact Hall.out j hj h'
        · obtain rfl : j = k := by omega
          simp [h]
      have Hx := Lib.hid hx
      have Hb := Lib.hid hb
      generalize l[k].2.2.2 = x3 at *
      have hkI : (k : Int) < (n : Int) := by omega
      clear hx hcc hb
      by_cases he : x3 = id
      · have Y := Lib.hid (HY.out he)
        subst he
        clear HN HY
        go_wp2_with fail
        go_ret
        exact ⟨⟨_, rfl, Y.out⟩, Hb.out⟩
      · have HN' := Lib.hid (HN.out he)
        have hbq : (x3 == id) = false := by simp [he]
        clear HN HY
        go_wp2_with fail
        go_roundw
        case rel => exact ⟨k + 1, by omega, by go_num, HN', Hb.out⟩
        case measure => simp [intOf]; omega
    · obtain rfl : k = n := by omega
      have Hb := Lib.hid hb
      go_wp2_with fail
      go_ret
      exact ⟨⟨_, rfl, .inl ⟨rfl, fun j hj => Hall.out j hj (by omega)⟩⟩, Hb.out⟩

set_option maxHeartbeats 1000000 in
theorem same_any (B : Nat) (a b : Option Addr) (n ca cb : Nat) (l : List Q) (w : World) (ha : QsIn B w a n l) (hb : QsIn B w b n l) (hB : B ≤ w.heap.size) (hn : n ≤ 9223372036854775807) :
    Calls Try.prog 20 #[.slice a n ca, .slice b n cb] w fun e w' => e = .returned (.bool true) ∧ Below w.heap.size w w' := by
  have hlen := ha.1
  go_enter Try.func20, Try.ntmps20
  go_wp2_with fail
  go_loopw [5] (fun i wr => ∃ k : Nat, k ≤ n ∧ i = .int .i64 k ∧ Below w.heap.size w wr) (fun i _ => n - (intOf i).toNat)
  case atStart => exact ⟨0, Nat.zero_le _, rfl, Below.refl _ _⟩
  case round =>
    obtain ⟨k, hk, rfl, hbl⟩ := hrel
    by_cases hlt : k < n
    · obtain ⟨b1, o1, rfl, hb1, hc1⟩ := (ha.keep (hbl.mono hB)).2 (by omega)
      obtain ⟨b2, o2, rfl, hb2, hc2⟩ := (hb.keep (hbl.mono hB)).2 (by omega)
      obtain ⟨x1, x2, x3, x4⟩ := hc1 k (by omega)
      obtain ⟨y1, y2, y3, y4⟩ := hc2 k (by omega)
      generalize l[k].1 = d0 at *
      generalize l[k].2.1 = d1 at *
      generalize l[k].2.2.1 = d2 at *
      generalize l[k].2.2.2 = d3 at *
      have Ha := Lib.hid ha
      have Hb := Lib.hid hb
      clear ha hb hc1 hc2
      have hkI : (k : Int) < (n : Int) := by omega
      go_wp2_with fail
      go_quiet (fail)
      go_wp2_with fail
      go_roundw
      case rel => exact ⟨k + 1, by omega, by go_num, hbl.trans ⟨rfl, rfl, rfl, Nat.le_refl _, fun _ _ => rfl⟩⟩
      case measure => simp [intOf]; omega
    · go_wp2_with fail
      go_ret
      exact ⟨rfl, hbl⟩
end Go.Proofs.Ytaogdgbijjjpjaa
