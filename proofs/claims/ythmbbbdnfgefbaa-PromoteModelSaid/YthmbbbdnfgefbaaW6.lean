/- WALKS: Next. -/
import Derived.Test.YthmbbbdnfgefbaaW5
namespace Go.Proofs.Ythmbbbdnfgefbaa
open Go.RowKit
set_option linter.unusedVariables false

/-- All entries of the places below k. -/
def Whl.all (S : Whl) (k : Nat) : List (Int × Int) := (List.range k).flatMap S.b
theorem all_succ (S : Whl) (k : Nat) : S.all (k + 1) = S.all k ++ S.b k := by
  unfold Whl.all; rw [List.range_succ, List.flatMap_append]; simp
theorem all_length (S : Whl) (k : Nat) : (S.all k).length = S.total k := by
  induction k with
  | zero => rfl
  | succ k ih => rw [all_succ, total_succ, List.length_append, ih]

def leastAt (l : List (Int × Int)) : Int := l.foldl (fun a d => min a d.1) 1099511627777
theorem leastAt_snoc (l : List (Int × Int)) (d : Int × Int) : leastAt (l ++ [d]) = min (leastAt l) d.1 := by simp [leastAt]

set_option maxHeartbeats 2000000 in
set_option maxRecDepth 100000 in
theorem next_any (B p : Nat) (F : Nat → Prop) (S : Whl) (w : World) (h : WheelAt B w p F S) (ok : S.Ok) :
    Calls Try.prog 19 #[.pointer (some ⟨p, 0, none⟩)] w fun e w' => e = .returned (.tuple #[.int .i64 (if leastAt (S.all 64) ≤ 1099511627776 then leastAt (S.all 64) else 0), .bool (decide (leastAt (S.all 64) ≤ 1099511627776))]) ∧ Below w.heap.size w w' := by
  go_enter Try.func19, Try.ntmps19
  go_wp2_with fail
  go_loopw [4, 8] (fun sa sk wr => ∃ (k : Nat), k ≤ 64 ∧ sk = .int .i64 k ∧ sa = .int .i64 (leastAt (S.all k)) ∧ Below w.heap.size w wr) (fun _ sk _ => 64 - (intOf sk).toNat)
  case atStart => exact ⟨0, Nat.zero_le _, rfl, rfl, Below.refl _ _⟩
  case round =>
    obtain ⟨k, hk, rfl, rfl, hb⟩ := hrel
    have hsz := hb.size
    have hW := h.below hb
    by_cases hlt : k < 64
    · obtain ⟨vs, hv1, _⟩ := hW.row
      obtain ⟨cv, hown, _⟩ := hv1 k hlt
      obtain ⟨a, cap, hform⟩ := ownsRow_form hown
      rw [hform] at cv hown
      have hD := dues_of_own hown rfl
      have hlen := ok.len k hlt
      have hle := ok.le
      clear hv1 hown hform hW
      have hkI : (k : Int) < 64 := by omega
      have hall := all_succ S k
      generalize S.all k = lk at *
      generalize hlk1 : S.all (k + 1) = lk1 at *
      have Hlk1 := Lib.hid hlk1; clear hlk1
      generalize S.b k = l at *
      have Hall := Lib.hid hall; clear hall
      go_wp2_with fail
      go_loopw [4, 18] (fun sa sj wi => ∃ (j : Nat), j ≤ l.length ∧ sj = .int .i64 j ∧ sa = .int .i64 (leastAt (lk ++ l.take j)) ∧ Below wr.heap.size wr wi) (fun _ sj _ => l.length - (intOf sj).toNat)
      case atStart => exact ⟨0, Nat.zero_le _, rfl, by simp, Below.refl _ _⟩
      case round =>
        obtain ⟨j, hj, rfl, rfl, hbj⟩ := hrel
        by_cases hjl : j < l.length
        · obtain ⟨b, off, rfl, hbB, hcc⟩ := (hD.keep hbj).2 (by omega)
          have hcell := hcc j hjl
          have hts : l.take (j + 1) = l.take j ++ [l[j]] := List.take_succ_eq_append_getElem hjl
          have hls : leastAt (lk ++ l.take (j + 1)) = min (leastAt (lk ++ l.take j)) l[j].1 := by rw [hts, ← List.append_assoc, leastAt_snoc]
          generalize hA2 : leastAt (lk ++ l.take (j + 1)) = A2 at *
          have HA2 := Lib.hid hA2; clear hA2
          generalize leastAt (lk ++ l.take j) = A1 at *
          generalize l[j] = d at *
          have Hls := Lib.hid hls
          have HD := Lib.hid hD
          have hjI : (j : Int) < (l.length : Int) := by omega
          obtain ⟨c0, c1⟩ := hcell
          have hszj := hbj.size
          clear hcc hls hts hD
          go_wp2_with fail
          go_roundw
          case rel => exact ⟨j + 1, by omega, by go_num, by rw [HA2.out, Hls.out], hbj.alloc hszj _⟩
          case measure => simp [intOf]; omega
        · obtain rfl : j = l.length := by omega
          rw [List.take_of_length_le (Nat.le_refl _), ← Hall.out]
          go_wp2_with fail
          go_roundw
          case rel => exact ⟨k + 1, by omega, by go_num, by rw [Hlk1.out], hb.trans (hbj.mono hsz)⟩
          case measure => simp [intOf]; omega
    · obtain rfl : k = 64 := by omega
      go_wp2_with fail
      all_goals go_ret2
      all_goals exact ⟨rfl, hb⟩
end Go.Proofs.Ythmbbbdnfgefbaa
