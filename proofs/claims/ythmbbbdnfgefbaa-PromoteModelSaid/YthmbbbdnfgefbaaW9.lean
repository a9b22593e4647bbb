/- WALKS: same, put. -/
import Derived.Test.YthmbbbdnfgefbaaW8
namespace Go.Proofs.Ythmbbbdnfgefbaa
open Go.RowKit
set_option linter.unusedVariables false

set_option maxHeartbeats 1000000 in
theorem same_any (B : Nat) (a b : Option Addr) (n ca cb : Nat) (l : List (Int × Int)) (w : World) (ha : PairsIn B w a n l) (hb : PairsIn B w b n l) (hB : B ≤ w.heap.size) (hn : n ≤ 9223372036854775807) :
    Calls Try.prog 18 #[.slice a n ca, .slice b n cb] w fun e w' => e = .returned (.bool true) ∧ Below w.heap.size w w' := by
  have hlen := ha.1
  go_enter Try.func18, Try.ntmps18
  go_wp2_with fail
  go_loopw [5] (fun i wr => ∃ k : Nat, k ≤ n ∧ i = .int .i64 k ∧ Below w.heap.size w wr) (fun i _ => n - (intOf i).toNat)
  case atStart => exact ⟨0, Nat.zero_le _, rfl, Below.refl _ _⟩
  case round =>
    obtain ⟨k, hk, rfl, hbl⟩ := hrel
    by_cases hlt : k < n
    · obtain ⟨b1, o1, rfl, hb1, hc1⟩ := (ha.keep (hbl.mono hB)).2 (by omega)
      obtain ⟨b2, o2, rfl, hb2, hc2⟩ := (hb.keep (hbl.mono hB)).2 (by omega)
      obtain ⟨x1, x2⟩ := hc1 k (by omega)
      obtain ⟨y1, y2⟩ := hc2 k (by omega)
      generalize l[k].1 = da at *
      generalize l[k].2 = di at *
      have Ha := Lib.hid ha
      have Hb := Lib.hid hb
      clear ha hb hc1 hc2
      have hkI : (k : Int) < (n : Int) := by omega
      go_wp2_with fail
      go_quiet (fail)
      go_wp2_with fail
      go_roundw
      case rel => exact ⟨k + 1, by omega, by go_num, hbl.trans ⟨rfl, rfl, rfl, Nat.le_refl _, fun _ _ => rfl⟩⟩
      case measure => simp [intOf]; omega
    · go_wp2_with fail
      go_ret
      exact ⟨rfl, hbl⟩
end Go.Proofs.Ythmbbbdnfgefbaa
