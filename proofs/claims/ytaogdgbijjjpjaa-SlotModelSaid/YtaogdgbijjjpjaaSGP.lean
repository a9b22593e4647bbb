/- SLOTS: what latest finds is the greatest place that is free, of all; what other groups hold doesn't matter. -/
import Derived.Test.YtaogdgbijjjpjaaSL7
namespace Go.Proofs.Ytaogdgbijjjpjaa
set_option linter.unusedVariables false

theorem okP_iff {g len f t p : Int} {l : List Q} : okP g len f t l p = true ↔ f ≤ p ∧ p + len ≤ t ∧ ∀ s ∈ l, ¬ (s.2.1 = g ∧ s.2.2.1 < p + len ∧ p < s.2.2.2) := by
  unfold okP
  simp only [Bool.and_eq_true, decide_eq_true_eq, Bool.not_eq_true', List.any_eq_false]
  refine ⟨fun ⟨a, b, c⟩ => ⟨a, b, fun s hs h => ?_⟩, fun ⟨a, b, c⟩ => ⟨a, b, fun s hs h => ?_⟩⟩
  · have := c s hs
    unfold hits at this
    simp at this
    omega
  · refine c s hs ?_
    unfold hits at h
    simpa using h
/-- From a free place up there is one that latest tries. -/
theorem lat_up {g len f t : Int} {l : List Q} (n : Nat) : ∀ q : Int, (t - len - q).toNat = n → okP g len f t l q = true → ∃ m, q ≤ m ∧ m ∈ places len t l ∧ okP g len f t l m = true := by
  induction n with
  | zero =>
    intro q hq hok
    have h := (okP_iff.1 hok)
    obtain rfl : q = t - len := by omega
    exact ⟨_, Int.le_refl _, List.mem_cons_self .., hok⟩
  | succ n ih =>
    intro q hq hok
    cases e : okP g len f t l (q + 1)
    · obtain ⟨h1, h2, h3⟩ := okP_iff.1 hok
      have hne : ¬ (f ≤ q + 1 ∧ q + 1 + len ≤ t ∧ ∀ s ∈ l, ¬ (s.2.1 = g ∧ s.2.2.1 < q + 1 + len ∧ q + 1 < s.2.2.2)) := fun h => by
        rw [okP_iff.2 h] at e; cases e
      have : ∃ s ∈ l, s.2.1 = g ∧ s.2.2.1 < q + 1 + len ∧ q + 1 < s.2.2.2 := by
        refine Classical.byContradiction fun hno => hne ⟨by omega, by omega, fun s hs hh => hno ⟨s, hs, hh⟩⟩
      obtain ⟨s, hs, hg, ha, hb⟩ := this
      have h4 := h3 s hs
      have : s.2.2.1 - len = q := by
        have : ¬ (s.2.2.1 < q + len) := fun h => h4 ⟨hg, h, by omega⟩
        omega
      exact ⟨q, Int.le_refl _, List.mem_cons_of_mem _ (List.mem_map.2 ⟨s, hs, this⟩), hok⟩
    · obtain ⟨m, h1, h2, h3⟩ := ih (q + 1) (by omega) e
      exact ⟨m, by omega, h2, h3⟩
theorem lat_max {g len f t p : Int} {l : List Q} (h : latM g len f t l = (p, true)) (q : Int) (hok : okP g len f t l q = true) : q ≤ p := by
  obtain ⟨m, h1, h2, h3⟩ := lat_up _ q rfl hok
  have := (latM_most h).2.2 m h2 h3
  omega
theorem lat_no {g len f t p : Int} {l : List Q} (h : latM g len f t l = (p, false)) (q : Int) : okP g len f t l q = false := by
  cases e : okP g len f t l q
  · rfl
  · obtain ⟨m, h1, h2, h3⟩ := lat_up _ q rfl e
    rw [(latM_none h).2 m h2] at h3; cases h3
theorem lat_same {g len f t : Int} {l l' : List Q} (h : ∀ p, okP g len f t l p = okP g len f t l' p) : latM g len f t l = latM g len f t l' := by
  cases e : latM g len f t l with
  | mk a b =>
    cases e' : latM g len f t l' with
    | mk a' b' =>
      cases b <;> cases b'
      · rw [(latM_none e).1, (latM_none e').1]
      · have := lat_no e a'
        rw [h, (latM_most e').2.1] at this; cases this
      · have := lat_no e' a
        rw [← h, (latM_most e).2.1] at this; cases this
      · have h1 := lat_max e a' (by rw [h]; exact (latM_most e').2.1)
        have h2 := lat_max e' a (by rw [← h]; exact (latM_most e).2.1)
        congr 1
        omega
/-- A group's own slots. -/
def grp (k : Int) (l : List Q) : List Q := l.filter fun s => s.2.1 == k
theorem okP_grp (k len f t p : Int) (l : List Q) : okP k len f t l p = okP k len f t (grp k l) p := by
  rw [Bool.eq_iff_iff, okP_iff, okP_iff]
  refine and_congr_right fun _ => and_congr_right fun _ => ⟨fun h s hs => h s (List.mem_filter.1 hs).1, fun h s hs hh => h s (List.mem_filter.2 ⟨hs, by simp [hh.1]⟩) hh⟩

/-- Ids below i. -/
def Below_ (l : List Q) (i : Nat) : Prop := ∀ s ∈ l, s.1 < (i : Int)
theorem res_new {room : Nat} {l : List Q} {i : Nat} {g len f t : Int} (hb : Below_ l i) : Below_ (resM room l i g len f t).2.2 (i + 1) := by
  have h0 : Below_ l (i + 1) := fun s hs => by have := hb s hs; push_cast; omega
  unfold resM
  split
  · exact h0
  · split
    · exact h0
    · split
      · exact h0
      · split
        · intro s hs
          rcases List.mem_append.1 hs with hs | hs
          · exact h0 s hs
          · simp only [List.mem_singleton] at hs; subst hs; simp only; push_cast; omega
        · exact h0
theorem below_any {l : List Q} {i : Nat} (hb : Below_ l i) : (l.any fun x => x.1 == (i : Int)) = false := List.any_eq_false.2 fun s hs => by
  have := hb s hs
  simp; omega
/-- Of another group: the group's own are as they were. -/
theorem res_other {l : List Q} {i : Nat} {g k len f t : Int} (hg : g ≠ k) : grp k (resM 256 l i g len f t).2.2 = grp k l := by
  unfold resM
  split
  · rfl
  · split
    · rfl
    · split
      · rfl
      · split
        · unfold grp
          rw [List.filter_append]
          simp [hg]
        · rfl
theorem resM_free {l : List Q} {id g len f t : Int} (hb : ¬ (len < 1 ∨ 1048576 < len ∨ f < 0 ∨ t < f ∨ 1099511627776 < t)) (ha : (l.any fun x => x.1 == id) = false) (hr : l.length ≠ 256) :
    resM 256 l id g len f t = if (latM g len f t l).2 = true then ((latM g len f t l).1, 0, l ++ [(id, g, (latM g len f t l).1, (latM g len f t l).1 + len)]) else (0, 4, l) := by
  unfold resM; rw [if_neg hb, ha, if_neg (by simp), if_neg hr]
/-- Of the group: it answers as it would alone. -/
theorem res_own {l : List Q} {i : Nat} {k len f t : Int} (hb : Below_ l i) (h1 : l.length < 256) : ((resM 256 l i k len f t).1, (resM 256 l i k len f t).2.1) = ((resM 256 (grp k l) i k len f t).1, (resM 256 (grp k l) i k len f t).2.1) ∧ grp k (resM 256 l i k len f t).2.2 = (resM 256 (grp k l) i k len f t).2.2 := by
  have hb2 : Below_ (grp k l) i := fun s hs => hb s (List.mem_filter.1 hs).1
  have h2 : (grp k l).length ≠ 256 := by have := List.length_filter_le (fun s : Q => s.2.1 == k) l; unfold grp; omega
  have e := lat_same (okP_grp k len f t · l)
  by_cases c : len < 1 ∨ 1048576 < len ∨ f < 0 ∨ t < f ∨ 1099511627776 < t
  · unfold resM
    rw [if_pos c, if_pos c]; exact ⟨rfl, rfl⟩
  · rw [resM_free c (below_any hb) (by omega), resM_free c (below_any hb2) h2, e]
    by_cases c2 : (latM k len f t (grp k l)).2 = true
    · rw [if_pos c2, if_pos c2]
      refine ⟨rfl, ?_⟩
      simp only
      unfold grp
      rw [List.filter_append]
      simp
    · rw [if_neg c2, if_neg c2]; exact ⟨rfl, rfl⟩
end Go.Proofs.Ytaogdgbijjjpjaa
