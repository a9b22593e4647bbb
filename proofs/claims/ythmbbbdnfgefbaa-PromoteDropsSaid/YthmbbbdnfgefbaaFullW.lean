/- WALK: WheelFull. -/
import Derived.Test.YthmbbbdnfgefbaaW9
namespace Go.Proofs.Ythmbbbdnfgefbaa
open Go.RowKit
set_option linter.unusedVariables false

/-- k entries of one time, numbered from 0 on. -/
def row (t : Int) (k : Nat) : List (Int × Int) := (List.range k).map fun j : Nat => (t, (j : Int))
theorem row_length (t : Int) (k : Nat) : (row t k).length = k := by simp [row]
theorem row_at (t : Int) (k j : Nat) (h : j < k) : (row t k)[j]'(by rw [row_length]; exact h) = (t, (j : Int)) := by simp [row]
theorem row_succ (t : Int) (k : Nat) : row t (k + 1) = row t k ++ [(t, (k : Int))] := by simp [row, List.range_succ]
theorem row_any (t : Int) (k : Nat) : ((row t k).any fun d => d.2 == (k : Int)) = false := by
  rw [List.any_eq_false]
  intro d hd
  simp only [row, List.mem_map, List.mem_range] at hd
  obtain ⟨j, hj, rfl⟩ := hd
  simp; omega
theorem while_all {α : Type} (p : α → Bool) (l : List α) (h : ∀ d ∈ l, p d = true) : l.takeWhile p = l ∧ l.dropWhile p = [] := by
  induction l with
  | nil => exact ⟨rfl, rfl⟩
  | cons x l ih =>
    have hx := h x List.mem_cons_self
    obtain ⟨a, b⟩ := ih fun d hd => h d (List.mem_cons_of_mem _ hd)
    exact ⟨by rw [List.takeWhile_cons, if_pos hx, a], by rw [List.dropWhile_cons, if_pos hx, b]⟩

theorem row_ins (t : Int) (k : Nat) : ins (t, (k : Int)) (row t k) = row t (k + 1) := by
  have hall : ∀ d ∈ row t k, ltD d (t, (k : Int)) = true := by
    intro d hd
    simp only [row, List.mem_map, List.mem_range] at hd
    obtain ⟨j, hj, rfl⟩ := hd
    rw [ltD_iff]; right; exact ⟨rfl, by simp; omega⟩
  unfold ins
  rw [(while_all _ _ hall).1, (while_all _ _ hall).2, row_succ]
theorem row_add (t : Int) (k K : Nat) (h0 : 0 ≤ t) (h1 : t ≤ 1099511627776) (hk : k < K) : addM 0 K (row t k) (t, (k : Int)) = (0, row t (k + 1)) := by
  unfold addM
  rw [if_neg (by simp; omega), if_neg (by rw [row_any]; simp), if_neg (by rw [row_length]; omega), row_ins]
theorem row_full (t : Int) (K : Nat) (h0 : 0 ≤ t) (h1 : t ≤ 1099511627776) : addM 0 K (row t K) (t, (K : Int)) = (3, row t K) := by
  unfold addM
  rw [if_neg (by simp; omega), if_neg (by rw [row_any]; simp), if_pos (by rw [row_length])]
theorem row_le (t : Int) (k : Nat) : (row t k).filter (fun d => decide (d.1 ≤ t)) = row t k := List.filter_eq_self.2 fun d hd => by
  simp only [row, List.mem_map, List.mem_range] at hd
  obtain ⟨j, hj, rfl⟩ := hd
  simp
theorem row_gt (t : Int) (k : Nat) : (row t k).filter (fun d => !decide (d.1 ≤ t)) = [] := List.filter_eq_nil_iff.2 fun d hd => by
  simp only [row, List.mem_map, List.mem_range] at hd
  obtain ⟨j, hj, rfl⟩ := hd
  simp

set_option maxHeartbeats 2000000 in
set_option maxRecDepth 100000 in
theorem full_walk (n t : Int) (w : World) (r0 : (Lit.int .u8 n).wf = true) (r1 : (Lit.int .u16 t).wf = true) :
    Calls Try.prog 7 #[.int .u8 n, .int .u16 t] w fun e w' => e = .returned (.bool true) ∧ Below w.heap.size w w' := by
  have hn : 0 ≤ n ∧ n ≤ 255 := by
    simp [Lit.wf] at r0
    have e1 : IntKind.u8.min = 0 := rfl
    have e2 : IntKind.u8.max = 255 := rfl
    omega
  have ht : 0 ≤ t ∧ t ≤ 65535 := by
    simp [Lit.wf] at r1
    have e1 : IntKind.u16.min = 0 := rfl
    have e2 : IntKind.u16.max = 65535 := rfl
    omega
  obtain ⟨hn0, hn1⟩ := hn
  obtain ⟨ht0, ht1⟩ := ht
  clear r0 r1
  obtain ⟨K, hK⟩ : ∃ K : Nat, 1 + n % 100 = (K : Int) := ⟨(1 + n % 100).toNat, by omega⟩
  have hK1 : 1 ≤ K := by omega
  have hK2 : K ≤ 100 := by omega
  go_enter Try.func7, Try.ntmps7
  go_wp2_with fail
  refine (WO.new (w0 := w) (Below.refl _ _) K (by omega) (by omega)).mono ?_
  rintro e w1 ⟨p, rfl, h1⟩
  go_wp2_with fail
  refine (awake_any _).mono ?_
  rintro e w2 ⟨rfl, hb2⟩
  have h2 := h1.below hb2
  go_wp2_with fail
  go_loopw [8] (fun i wr => ∃ j : Nat, j ≤ K ∧ i = .int .i64 j ∧ WO w wr p K 0 (row t j)) (fun i _ => K - (intOf i).toNat)
  case atStart => exact ⟨0, Nat.zero_le _, rfl, h2⟩
  case round =>
    clear h2 h1 hb2
    obtain ⟨j, hj, rfl, hW⟩ := hrel
    by_cases hlt : j < K
    · have hjI : (j : Int) < (K : Int) := by omega
      have hA := Lib.hid (hW.add_is (row_add t j K ht0 (by omega) hlt))
      go_wp2_with fail
      refine hA.out.mono ?_
      rintro e w3 ⟨rfl, h3⟩
      go_wp2_with fail
      go_roundw
      case rel => exact ⟨j + 1, by omega, by go_num, h3⟩
      case measure => simp [intOf]; omega
    · obtain rfl : j = K := by omega
      have hA := Lib.hid (hW.add_is (row_full t j ht0 (by omega)))
      have hlen := row_length t j
      have hle := row_le t j
      have hgt := row_gt t j
      have hadd := row_add t 0 j ht0 (by omega) (by omega)
      have Hat := Lib.hid (row_at t j)
      have Hlen := Lib.hid hlen
      have Hle := Lib.hid hle
      have Hgt := Lib.hid hgt
      clear hlen hle hgt hadd
      go_wp2_with fail
      refine hA.out.mono ?_
      rintro e w3 ⟨rfl, h3⟩
      have hL := h3.len
      rw [Hlen.out] at hL
      have HL := Lib.hid hL; clear hL
      go_wp2_with fail
      refine HL.out.mono ?_
      rintro e w4 ⟨rfl, rfl⟩
      have hV := h3.adv t (by omega) (by omega)
      rw [Hle.out, Hgt.out, Hlen.out] at hV
      have HV := Lib.hid hV; clear hV
      go_wp2_with fail
      refine HV.out.mono ?_
      rintro e w5 ⟨a, c, rfl, hown, ⟨F', hW5, _⟩, hb5⟩
      have h5 : WO w w5 p j t [] := ⟨⟨F', hW5⟩, hb5⟩
      have hD : PairsIn w5.heap.size w5 a j (row t j) := dues_of_own (by rw [Hlen.out]; exact hown) Hlen.out.symm
      clear hown hW5 h3 hW hA HV HL
      go_wp2_with fail
      go_loop [11] (fun i => ∃ q : Nat, q ≤ j ∧ i = .int .i64 q) (fun i => j - (intOf i).toNat)
      case atStart => exact ⟨0, Nat.zero_le _, rfl⟩
      case round =>
        obtain ⟨q, hq, rfl⟩ := hrel
        by_cases hqj : q < j
        · obtain ⟨b, off, rfl, hbB, hcc⟩ := hD.2 (by omega)
          have hcell := (hcc q (by rw [Hlen.out]; exact hqj)).2
          rw [Hat.out q hqj] at hcell
          have HD := Lib.hid hD
          have hqI : (q : Int) < (j : Int) := by omega
          clear hcc hD
          go_wp2_with fail
          go_round
          case rel => exact ⟨q + 1, by omega, by go_num⟩
          case measure => simp [intOf]; omega
        · obtain rfl : q = j := by omega
          have HL5 := Lib.hid h5.len
          have HA5 := Lib.hid (h5.add_is (a := t) (i := (q : Int)) (r := 0) (m' := [(t, (q : Int))]) (by unfold addM; rw [if_neg (by simp; omega), if_neg (by simp), if_neg (by simp; omega)]; rfl))
          go_wp2_with fail
          refine HL5.out.mono ?_
          rintro e w6 ⟨rfl, rfl⟩
          go_wp2_with fail
          refine HA5.out.mono ?_
          rintro e w6 ⟨rfl, h6⟩
          go_wp2_with fail
          go_ret
          exact ⟨rfl, h6.2⟩
end Go.Proofs.Ythmbbbdnfgefbaa
