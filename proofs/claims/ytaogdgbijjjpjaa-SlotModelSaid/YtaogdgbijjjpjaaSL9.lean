/- SLOTS: apart: has a slot no tick in common with those of its group. -/
import Derived.Test.YtaogdgbijjjpjaaSL8
import Derived.Test.YtaogdgbijjjpjaaHCmpW
namespace Go.Proofs.Ytaogdgbijjjpjaa
open Go.RowKit
set_option linter.unusedVariables false

/-- Two slots of one group with a tick in common. -/
def meets (x s : Q) : Bool := x.2.1 == s.2.1 && (decide (x.2.2.1 < s.2.2.2) && decide (s.2.2.1 < x.2.2.2))
def apM (l : List Q) (s : Q) : Bool := !(l.any fun x => meets x s)
theorem apM_of {l : List Q} {s : Q} (h : ∀ j (hj : j < l.length), meets l[j] s = false) : apM l s = true := by
  unfold apM
  rw [Bool.not_eq_true', List.any_eq_false]
  intro x hx
  obtain ⟨j, hj, rfl⟩ := List.mem_iff_getElem.1 hx
  rw [h j hj]; simp
theorem apM_no {l : List Q} {s : Q} {j : Nat} (hj : j < l.length) (h : meets l[j] s = true) : apM l s = false := by
  unfold apM
  rw [Bool.not_eq_false', List.any_eq_true]
  exact ⟨_, List.getElem_mem hj, h⟩
theorem apM_all {l : List Q} {s : Q} (h : apM l s = true) : ∀ x ∈ l, meets x s = false := by
  unfold apM at h
  rw [Bool.not_eq_true', List.any_eq_false] at h
  intro x hx
  have := h x hx
  simpa using this

set_option maxHeartbeats 8000000 in
set_option maxRecDepth 100000 in
theorem apart_any (B : Nat) (a : Option Addr) (n c : Nat) (l : List Q) (d0 d1 d2 d3 : Int) (w : World) (hl : QsIn B w a n l) (hB : B ≤ w.heap.size) (hn : n ≤ 9223372036854775807) :
    Calls Try.prog 34 #[.slice a n c, .agg #[.int .i64 d0, .int .i64 d1, .int .i64 d2, .int .i64 d3]] w fun e w' => e = .returned (.bool (apM l (d0, d1, d2, d3))) ∧ Below w.heap.size w w' := by
  have hlen := hl.1
  have HLL := Lib.hid hl
  clear hl
  go_enter Try.func34, Try.ntmps34
  go_wp2_with fail
  generalize hw1 : w.alloc (.cells #[.int .i64 d0, .int .i64 d1, .int .i64 d2, .int .i64 d3] 59) = w1
  have e0 : C4 w1 w.heap.size d0 d1 d2 d3 := by rw [← hw1]; exact C4.new _ _ _ _ _ _ _ rfl
  have hb1 : Below w.heap.size w w1 := by rw [← hw1]; exact (Below.refl _ _).alloc (Nat.le_refl _) _
  have hs1 : w.heap.size < w1.heap.size := by rw [← hw1]; simp
  clear hw1
  have HB0 : Hid (B ≤ w.heap.size) := hB
  clear hB
  go_wp2_with fail
  go_loopw [5] (fun i wr => ∃ k : Nat, k ≤ n ∧ i = .int .i64 k ∧ (wr.cell? ⟨w.heap.size, 1, none⟩ = some (.int .i64 d1) ∧ wr.cell? ⟨w.heap.size, 2, none⟩ = some (.int .i64 d2) ∧ wr.cell? ⟨w.heap.size, 3, none⟩ = some (.int .i64 d3) ∧ Below w.heap.size w wr) ∧ Hid (∀ j (h : j < l.length), j < k → meets l[j] (d0, d1, d2, d3) = false)) (fun i _ => n - (intOf i).toNat)
  case atStart => exact ⟨0, Nat.zero_le _, rfl, ⟨e0.c1, e0.c2, e0.c3, hb1⟩, fun j h hj => by omega⟩
  case round =>
    clear e0 hb1 hs1
    obtain ⟨k, hk, rfl, ⟨g1, g2, g3, hb⟩, HM⟩ := hrel
    by_cases hlt : k < n
    · obtain ⟨b, off, rfl, hbB, hcc⟩ := (HLL.out.keep (hb.mono HB0.out)).2 (by omega)
      obtain ⟨x0, c1, c2, c3⟩ := hcc k (by omega)
      have HN : Hid (meets l[k] (d0, d1, d2, d3) = false → ∀ j (h : j < l.length), j < k + 1 → meets l[j] (d0, d1, d2, d3) = false) := by
        intro hm j h hj
        rcases Nat.lt_or_ge j k with hjk | hjk
        · exact HM.out j h hjk
        · obtain rfl : j = k := by omega
          exact hm
      have HY : Hid (meets l[k] (d0, d1, d2, d3) = true → apM l (d0, d1, d2, d3) = false) := fun hm => apM_no (by omega) hm
      have hmt : meets l[k] (d0, d1, d2, d3) = (l[k].2.1 == d1 && (decide (l[k].2.2.1 < d3) && decide (d2 < l[k].2.2.2))) := rfl
      rw [hmt] at HN HY
      clear hmt x0
      generalize l[k].2.1 = y1 at *
      generalize l[k].2.2.1 = y2 at *
      generalize l[k].2.2.2 = y3 at *
      have hkI : (k : Int) < (n : Int) := by omega
      clear hcc HM
      by_cases h1 : y1 = d1
      · subst h1
        by_cases h2 : y2 < d3
        · by_cases h3 : d2 < y3
          · as_aux_lemma =>
            have HR : Hid (apM l (d0, y1, d2, d3) = false) := HY.out (by simp [h2, h3])
            clear HY HN
            go_wp2_with fail
            go_quiet (fail)
            go_wp2_with fail
            go_ret
            exact ⟨by rw [HR.out]; rfl, bel_drewN hb _⟩
          · as_aux_lemma =>
            have e3 : decide (d2 < y3) = false := decide_eq_false h3
            have HR := Lib.hid (HN.out (by simp [h2, h3]))
            clear HY HN
            go_wp2_with fail
            go_quiet (fail)
            go_wp2_with fail
            go_roundw
            case rel => exact ⟨k + 1, by omega, by go_num, ⟨g1, g2, g3, bel_drewN hb _⟩, HR⟩
            case measure => simp [intOf]; omega
        · as_aux_lemma =>
          have e3 : decide (y2 < d3) = false := decide_eq_false h2
          have HR := Lib.hid (HN.out (by simp [h2]))
          clear HY HN
          go_wp2_with fail
          go_quiet (fail)
          go_wp2_with fail
          go_roundw
          case rel => exact ⟨k + 1, by omega, by go_num, ⟨g1, g2, g3, bel_drewN hb _⟩, HR⟩
          case measure => simp [intOf]; omega
      · as_aux_lemma =>
        have e3 : (y1 == d1) = false := by simpa using h1
        have HR := Lib.hid (HN.out (by simp [h1]))
        clear HY HN
        go_wp2_with fail
        go_quiet (fail)
        go_wp2_with fail
        go_roundw
        case rel => exact ⟨k + 1, by omega, by go_num, ⟨g1, g2, g3, bel_drewN hb _⟩, HR⟩
        case measure => simp [intOf]; omega
    · have HR : Hid (apM l (d0, d1, d2, d3) = true) := apM_of fun j hj => HM.out j hj (by omega)
      clear HM
      go_wp2_with fail
      go_ret
      exact ⟨by rw [HR.out]; rfl, hb⟩
end Go.Proofs.Ytaogdgbijjjpjaa
