/- SlotFills: the plain law. -/
import Derived.Test.YtaogdgbijjjpjaaSL7
namespace Go.Proofs.Ytaogdgbijjjpjaa
set_option linter.unusedVariables false

def fs (a w n : Int) (q : Nat) : Q := ((q : Int), 1, a + w - ((q : Int) + 1) * n, a + w - ((q : Int) + 1) * n + n)
def fl (a w n : Int) (i : Nat) : List Q := (List.range i).map (fs a w n)
theorem fl_len (a w n : Int) (i : Nat) : (fl a w n i).length = i := by simp [fl]
theorem fl_succ (a w n : Int) (i : Nat) : fl a w n (i + 1) = fl a w n i ++ [fs a w n i] := by simp [fl, List.range_succ]
theorem fl_mem {a w n : Int} {i : Nat} {s : Q} (h : s ∈ fl a w n i) : ∃ q, q < i ∧ s = fs a w n q := by
  obtain ⟨q, hq, rfl⟩ := List.mem_map.1 h
  exact ⟨q, List.mem_range.1 hq, rfl⟩
theorem fl_in {a w n : Int} {i q : Nat} (h : q < i) : fs a w n q ∈ fl a w n i := List.mem_map.2 ⟨q, List.mem_range.2 h, rfl⟩
theorem mul_le {q i : Nat} (h : q ≤ i) {n : Int} (hn : 1 ≤ n) : (q : Int) * n ≤ (i : Int) * n := Int.mul_le_mul_of_nonneg_right (by omega) (by omega)
theorem mul_s (q : Nat) (n : Int) : ((q : Int) + 1) * n = (q : Int) * n + n := by rw [Int.add_mul, Int.one_mul]
theorem fl_pl {a w n : Int} {i : Nat} {r : Int} (h : r ∈ places n (a + w) (fl a w n i)) : ∃ q : Nat, q ≤ i ∧ r = a + w - ((q : Int) + 1) * n := by
  unfold places at h
  rcases List.mem_cons.1 h with rfl | h
  · exact ⟨0, Nat.zero_le _, by simp⟩
  · obtain ⟨s, hs, rfl⟩ := List.mem_map.1 h
    obtain ⟨q, hq, rfl⟩ := fl_mem hs
    refine ⟨q + 1, by omega, ?_⟩
    unfold fs
    simp only
    rw [mul_s, mul_s]
    push_cast
    rw [Int.add_mul]
    omega
theorem fl_last {a w n : Int} {i : Nat} : a + w - ((i : Int) + 1) * n ∈ places n (a + w) (fl a w n i) := by
  unfold places
  cases i with
  | zero => simp
  | succ i =>
    refine List.mem_cons_of_mem _ (List.mem_map.2 ⟨fs a w n i, fl_in (by omega), ?_⟩)
    unfold fs
    simp only
    rw [mul_s, mul_s]
    push_cast
    rw [Int.add_mul]
    omega
theorem fl_bad {a w n : Int} (hn : 1 ≤ n) {i q : Nat} (hq : q < i) : okP 1 n a (a + w) (fl a w n i) (a + w - ((q : Int) + 1) * n) = false := by
  have : ((fl a w n i).any (hits 1 (a + w - ((q : Int) + 1) * n) (a + w - ((q : Int) + 1) * n + n))) = true := by
    refine List.any_eq_true.2 ⟨fs a w n q, fl_in hq, ?_⟩
    unfold hits fs
    simp
    omega
  unfold okP
  rw [this]
  simp
theorem fl_lat {a w n : Int} (hn : 1 ≤ n) {i : Nat} (hk : ((i : Int) + 1) * n ≤ w) : latM 1 n a (a + w) (fl a w n i) = (a + w - ((i : Int) + 1) * n, true) := by
  refine latM_is fl_last ?_ ?_
  · unfold okP
    have h0 := mul_le (Nat.zero_le i) hn
    rw [mul_s] at *
    have ha : ((fl a w n i).any (hits 1 (a + w - ((i : Int) * n + n)) (a + w - ((i : Int) * n + n) + n))) = false := by
      refine List.any_eq_false.2 fun s hs => ?_
      obtain ⟨q, hq, rfl⟩ := fl_mem hs
      have := mul_le (show q + 1 ≤ i by omega) hn
      push_cast at this
      unfold hits fs
      simp
      omega
    rw [ha]
    simp
    simp at h0
    omega
  · intro r hr hok
    obtain ⟨q, hq, rfl⟩ := fl_pl hr
    rcases Nat.lt_or_ge q i with h | h
    · rw [fl_bad hn h] at hok; cases hok
    · obtain rfl : q = i := by omega
      exact Int.le_refl _
theorem fl_any {a w n : Int} {i : Nat} {id : Int} (h : ∀ q : Nat, q < i → (q : Int) ≠ id) : ((fl a w n i).any fun x => x.1 == id) = false := by
  refine List.any_eq_false.2 fun s hs => ?_
  obtain ⟨q, hq, rfl⟩ := fl_mem hs
  simpa [fs] using h q hq
/-- What is asked for is fitting. -/
structure Ft (a w n : Int) : Prop where
  n1 : 1 ≤ n
  n2 : n ≤ 20
  w0 : 0 ≤ w
  w1 : w ≤ 255
  a0 : 0 ≤ a
  a1 : a ≤ 65535
theorem fl_step {a w n : Int} (h : Ft a w n) {i : Nat} (hi : i ≤ 255) (hk : ((i : Int) + 1) * n ≤ w) : resM 256 (fl a w n i) i 1 n a (a + w) = (a + w - ((i : Int) + 1) * n, 0, fl a w n (i + 1)) := by
  obtain ⟨h1, h2, h3, h4, h5, h6⟩ := h
  rw [resM_ok (p := a + w - ((i : Int) + 1) * n) (by omega) (fl_any (by intro q hq e; omega)) (by rw [fl_len]; omega) (fl_lat h1 hk), fl_succ]
  rfl
theorem fl_full {a w n : Int} (h : Ft a w n) {k : Nat} (hk1 : k ≤ 255) (hk : w < ((k : Int) + 1) * n) : resM 256 (fl a w n k) 999 1 n a (a + w) = (0, 4, fl a w n k) := by
  obtain ⟨h1, h2, h3, h4, h5, h6⟩ := h
  refine resM_none (p := 0) (by omega) (fl_any (by intro q hq e; omega)) (by rw [fl_len]; omega) (latM_not fun r hr => ?_)
  obtain ⟨q, hq, rfl⟩ := fl_pl hr
  rcases Nat.lt_or_ge q k with hlt | hge
  · exact fl_bad h1 hlt
  · obtain rfl : q = k := by omega
    unfold okP
    rw [decide_eq_false (by omega : ¬ a ≤ a + w - ((q : Int) + 1) * n)]
    rfl
theorem fl_other {a w n : Int} (h : Ft a w n) {k : Nat} (hk1 : k ≤ 255) (hk : n ≤ w) : resM 256 (fl a w n k) 998 2 n a (a + w) = (a + w - n, 0, fl a w n k ++ [(998, 2, a + w - n, a + w - n + n)]) := by
  obtain ⟨h1, h2, h3, h4, h5, h6⟩ := h
  refine resM_ok (p := a + w - n) (by omega) (fl_any (by intro q hq e; omega)) (by rw [fl_len]; omega) (latM_is (List.mem_cons_self ..) ?_ ?_)
  · unfold okP
    have : ((fl a w n k).any (hits 2 (a + w - n) (a + w - n + n))) = false := by
      refine List.any_eq_false.2 fun s hs => ?_
      obtain ⟨q, hq, rfl⟩ := fl_mem hs
      simp [hits, fs]
    rw [this]
    simp
    omega
  · intro r hr _
    obtain ⟨q, hq, rfl⟩ := fl_pl hr
    have := mul_le (Nat.zero_le q) h1
    rw [mul_s]
    simp at this
    omega
theorem fl_zero {a w n : Int} (h : Ft a w n) (hk : w < n) : resM 256 [] 998 2 n a (a + w) = (0, 4, []) := by
  obtain ⟨h1, h2, h3, h4, h5, h6⟩ := h
  refine resM_none (p := 0) (by omega) rfl (by decide) (latM_not fun r hr => ?_)
  simp [places] at hr
  subst hr
  unfold okP
  rw [decide_eq_false (by omega : ¬ a ≤ a + w - n)]
  rfl
theorem fl_depth {a w n : Int} (h : Ft a w n) {k : Nat} (hk : 0 < k) : ((fl a w n k ++ [(998, 2, a + w - n, a + w - n + n)]).filter fun x => !atOut (a + w - n) x).length = 2 := by
  obtain ⟨h1, h2, h3, h4, h5, h6⟩ := h
  obtain ⟨k, rfl⟩ : ∃ j, k = j + 1 := ⟨k - 1, by omega⟩
  have e : fl a w n (k + 1) = fs a w n 0 :: (List.range k).map fun q => fs a w n (q + 1) := by
    unfold fl
    rw [List.range_succ_eq_map, List.map_cons, List.map_map]
    rfl
  have h0 : (((List.range k).map fun q => fs a w n (q + 1)).filter fun x => !atOut (a + w - n) x) = [] := by
    refine List.filter_eq_nil_iff.2 fun s hs => ?_
    obtain ⟨q, _, rfl⟩ := List.mem_map.1 hs
    have := mul_le (Nat.zero_le q) h1
    have e2 : ((((q + 1 : Nat)) : Int) + 1) * n = (q : Int) * n + n + n := by rw [mul_s]; push_cast; rw [Int.add_mul, Int.one_mul]
    simp at this
    have : atOut (a + w - n) (fs a w n (q + 1)) = true := by
      unfold atOut fs
      simp only [e2]
      simp
      omega
    rw [this]; simp
  have ht : atOut (a + w - n) (fs a w n 0) = false := by
    unfold atOut fs; simp; omega
  have ht2 : atOut (a + w - n) (998, 2, a + w - n, a + w - n + n) = false := by
    unfold atOut; simp; omega
  rw [e, List.filter_append, List.filter_cons_of_pos (by rw [ht]; rfl), h0, List.filter_cons_of_pos (by rw [ht2]; rfl)]
  rfl
end Go.Proofs.Ytaogdgbijjjpjaa
