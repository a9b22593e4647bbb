/- THE PLAIN LAW of the wheel: Cancel, Advance, Next. -/
import Derived.Test.YthmbbbdnfgefbaaPlain
namespace Go.Proofs.Ythmbbbdnfgefbaa
open Go.RowKit
set_option linter.unusedVariables false

theorem sum_filter (S : Whl) (pr : Int × Int → Bool) (k : Nat) : ((List.range k).map fun j => ((S.b j).filter pr).length).sum = ((S.all k).filter pr).length := by
  induction k with
  | zero => rfl
  | succ k ih => rw [all_succ, List.filter_append, List.length_append, List.range_succ, List.map_append, List.sum_append, ih]; simp

theorem cutTo_all (S : Whl) (pr : Int × Int → Bool) (K : Nat) (k : Nat) (hk : k ≤ K) : (S.cutTo pr K).all k = (S.all k).filter fun d => !pr d := by
  induction k with
  | zero => rfl
  | succ k ih =>
    rw [all_succ, all_succ, List.filter_append, ih (by omega)]
    congr 1
    simp [Whl.cutTo, show k < K from by omega]

theorem srt_filter {m : List (Int × Int)} (h : Srt m) (p : Int × Int → Bool) : Srt (m.filter p) := List.Pairwise.filter p h

theorem nodup_filter {m : List (Int × Int)} (h : (m.map (·.2)).Nodup) (p : Int × Int → Bool) : ((m.filter p).map (·.2)).Nodup :=
  (List.Sublist.map _ List.filter_sublist).nodup h

theorem Whl.Rep.cancel {S : Whl} {m : List (Int × Int)} (h : S.Rep m) (pr : Int × Int → Bool) :
    (S.cutTo pr 64).Rep (m.filter fun d => !pr d) ∧ decide ((S.cutTo pr 64).n < S.n) = m.any pr ∧ (S.cutTo pr 64).now = S.now ∧ (S.cutTo pr 64).room = S.room ∧ (S.cutTo pr 64).n ≤ S.n := by
  have hall := cutTo_all S pr 64 64 (Nat.le_refl _)
  have hn : (S.cutTo pr 64).n = S.n - ((S.all 64).filter pr).length := by show S.n - _ = _; rw [sum_filter]
  have hsp := filter_split pr (S.all 64)
  have hlen := h.ok.n
  rw [← all_length] at hlen
  have hpe : ((S.all 64).filter pr).length = (m.filter pr).length := (h.perm.filter pr).length_eq
  refine ⟨⟨⟨?_, ?_, h.ok.now⟩, ?_, ?_, nodup_filter h.ids _, srt_filter h.srt _⟩, ?_, rfl, rfl, by omega⟩
  · rw [← all_length, hall, hn]; omega
  · rw [hn]; have := h.ok.le; omega
  · intro i hi d hd
    have : d ∈ S.b i := by
      simp only [Whl.cutTo] at hd
      rw [if_pos hi] at hd
      exact (List.mem_filter.1 hd).1
    exact h.pl i hi d this
  · rw [hall]; exact h.perm.filter _
  · rw [Bool.eq_iff_iff, decide_eq_true_eq, hn, hpe]
    have hle : (m.filter pr).length ≤ m.length := List.length_filter_le _ _
    have hnm := h.n
    constructor
    · intro hlt
      have hpos : 0 < (m.filter pr).length := by omega
      obtain ⟨d, hd⟩ := List.exists_mem_of_length_pos hpos
      exact List.any_eq_true.2 ⟨d, (List.mem_filter.1 hd).1, (List.mem_filter.1 hd).2⟩
    · intro hany
      obtain ⟨d, hd, hp⟩ := List.any_eq_true.1 hany
      have hpos : 0 < (m.filter pr).length := List.length_pos_of_mem (List.mem_filter.2 ⟨hd, hp⟩)
      omega

theorem cut_perm (S : Whl) (t : Int) (i : Nat) (hi : i < 64) : ((S.cut t i).all 64 ++ (S.b i).filter fun d => decide (d.1 ≤ t)).Perm (S.all 64) := by
  have e : (S.cut t i).all 64 = (S.put i ((S.b i).filter fun d => !decide (d.1 ≤ t))).all 64 := rfl
  rw [e]
  have h1 := all_put_perm S i ((S.b i).filter fun d => !decide (d.1 ≤ t)) 64 hi
  have h2 : ((S.b i).filter (fun d => decide (d.1 ≤ t)) ++ (S.b i).filter fun d => !decide (d.1 ≤ t)).Perm (S.b i) := List.filter_append_perm _ _
  have h3 : ((S.put i ((S.b i).filter fun d => !decide (d.1 ≤ t))).all 64 ++ (S.b i).filter (fun d => decide (d.1 ≤ t)) ++ (S.b i).filter fun d => !decide (d.1 ≤ t)).Perm (S.all 64 ++ (S.b i).filter fun d => !decide (d.1 ≤ t)) := by
    rw [List.append_assoc]
    exact (h2.append_left _).trans h1
  exact (List.perm_append_right_iff _).1 h3

theorem adv_perm (S : Whl) (t : Int) (k : Nat) : ((S.adv t k).1.all 64 ++ (S.adv t k).2).Perm (S.all 64) := by
  induction k with
  | zero => simp [Whl.adv]
  | succ k ih =>
    have h := cut_perm (S.adv t k).1 t ((S.now.toNat + k) % 64) (Nat.mod_lt _ (by omega))
    simp only [Whl.adv]
    refine List.Perm.trans ?_ ih
    rw [← List.append_assoc]
    refine List.Perm.trans ?_ (h.append_right _)
    rw [List.append_assoc, List.append_assoc]
    exact (List.perm_append_comm).append_left _

theorem adv_out (S : Whl) (t : Int) (k : Nat) : ∀ d ∈ (S.adv t k).2, d.1 ≤ t := by
  induction k with
  | zero => simp [Whl.adv]
  | succ k ih =>
    intro d hd
    simp only [Whl.adv] at hd
    rcases List.mem_append.1 hd with hd | hd
    · exact ih d hd
    · simpa using (List.mem_filter.1 hd).2

theorem adv_sub (S : Whl) (t : Int) (k i : Nat) : ∀ d ∈ (S.adv t k).1.b i, d ∈ S.b i := by
  induction k with
  | zero => intro d hd; exact hd
  | succ k ih =>
    intro d hd
    simp only [Whl.adv, Whl.cut, Whl.put] at hd
    split at hd
    · rename_i e; subst e; exact ih d (List.mem_filter.1 hd).1
    · exact ih d hd

theorem adv_left (S : Whl) (t : Int) (k : Nat) : ∀ j, j < k → ∀ d ∈ (S.adv t k).1.b ((S.now.toNat + j) % 64), t < d.1 := by
  induction k with
  | zero => intro j hj; omega
  | succ k ih =>
    intro j hj d hd
    simp only [Whl.adv, Whl.cut, Whl.put] at hd
    split at hd
    · have := (List.mem_filter.1 hd).2
      simp at this; omega
    · rename_i hne
      exact ih j (by
        rcases Nat.lt_or_ge j k with h | h
        · exact h
        · have : j = k := by omega
          subst this; exact absurd rfl hne) d hd

theorem Whl.Rep.advance {S : Whl} {m l : List (Int × Int)} (h : S.Rep m) (t : Int) (h1 : S.now ≤ t) (hl : l.Perm (S.adv t (places S t)).2) (hs : l.Pairwise fun x y => ltD y x = false) :
    l = m.filter (fun d => decide (d.1 ≤ t)) ∧ Whl.Rep { (S.adv t (places S t)).1 with now := t } (m.filter fun d => !decide (d.1 ≤ t)) ∧ (S.adv t (places S t)).1.n ≤ S.n := by
  obtain ⟨okk, hsum⟩ := h.ok.adv t (places S t)
  have hp := adv_perm S t (places S t)
  have hout := adv_out S t (places S t)
  have hnow0 := h.ok.now
  have hrest : ∀ d ∈ (S.adv t (places S t)).1.all 64, t < d.1 := by
    intro d hd
    obtain ⟨i, hi, hb⟩ := (all_mem _ 64 d).1 hd
    obtain ⟨p1, p2, p3⟩ := h.pl i hi d (adv_sub S t _ i d hb)
    rcases Int.lt_or_le t d.1 with hlt | hle
    · exact hlt
    · refine adv_left S t (places S t) ((d.1 - S.now).toNat % 64) ?_ d ?_
      · unfold places; omega
      · have : (S.now.toNat + (d.1 - S.now).toNat % 64) % 64 = i := by omega
        rw [this]; exact hb
  have f1 : (S.adv t (places S t)).2.filter (fun d => decide (d.1 ≤ t)) = (S.adv t (places S t)).2 := List.filter_eq_self.2 fun d hd => by simpa using hout d hd
  have f2 : ((S.adv t (places S t)).1.all 64).filter (fun d => decide (d.1 ≤ t)) = [] := List.filter_eq_nil_iff.2 fun d hd => by have := hrest d hd; simp; omega
  have f3 : (S.adv t (places S t)).2.filter (fun d => !decide (d.1 ≤ t)) = [] := List.filter_eq_nil_iff.2 fun d hd => by have := hout d hd; simp; omega
  have f4 : ((S.adv t (places S t)).1.all 64).filter (fun d => !decide (d.1 ≤ t)) = (S.adv t (places S t)).1.all 64 := List.filter_eq_self.2 fun d hd => by have := hrest d hd; simp; omega
  have g1 : ((S.adv t (places S t)).2).Perm (m.filter fun d => decide (d.1 ≤ t)) := by
    have := (hp.trans h.perm).filter fun d => decide (d.1 ≤ t)
    rw [List.filter_append, f1, f2, List.nil_append] at this
    exact this
  have g2 : ((S.adv t (places S t)).1.all 64).Perm (m.filter fun d => !decide (d.1 ≤ t)) := by
    have := (hp.trans h.perm).filter fun d => !decide (d.1 ≤ t)
    rw [List.filter_append, f3, f4, List.append_nil] at this
    exact this
  refine ⟨srt_eq (hl.trans g1) hs (srt_filter h.srt _), ⟨⟨okk.n, okk.le, by show 0 ≤ t; omega⟩, ?_, g2, nodup_filter h.ids _, srt_filter h.srt _⟩, by omega⟩
  intro i hi d hd
  have hd' : d ∈ (S.adv t (places S t)).1.b i := hd
  obtain ⟨p1, p2, p3⟩ := h.pl i hi d (adv_sub S t _ i d hd')
  have := hrest d ((all_mem _ 64 d).2 ⟨i, hi, hd'⟩)
  exact ⟨p1, by show t ≤ _; omega, p3⟩

theorem leastAt_gen (l : List (Int × Int)) (a : Int) : l.foldl (fun a d => min a d.1) a = min a (l.foldl (fun a d => min a d.1) a) ∧ ∀ d ∈ l, l.foldl (fun a d => min a d.1) a ≤ d.1 := by
  induction l generalizing a with
  | nil => simp
  | cons x l ih =>
    simp only [List.foldl_cons]
    obtain ⟨i1, i2⟩ := ih (min a x.1)
    refine ⟨by omega, fun d hd => ?_⟩
    rcases List.mem_cons.1 hd with rfl | hd
    · omega
    · exact i2 d hd

theorem leastAt_attained (l : List (Int × Int)) (a : Int) : l.foldl (fun a d => min a d.1) a = a ∨ ∃ d ∈ l, l.foldl (fun a d => min a d.1) a = d.1 := by
  induction l generalizing a with
  | nil => simp
  | cons x l ih =>
    simp only [List.foldl_cons]
    rcases ih (min a x.1) with h | ⟨d, hd, h⟩
    · rw [h]
      rcases Int.le_total a x.1 with hle | hle
      · left; omega
      · right; exact ⟨x, List.mem_cons_self, by omega⟩
    · right; exact ⟨d, List.mem_cons_of_mem _ hd, h⟩

/-- NEXT, plain: the first one's time. -/
theorem Whl.Rep.next_nil {S : Whl} (h : S.Rep []) : leastAt (S.all 64) = 1099511627777 := by
  have := h.perm.eq_nil
  rw [this]; rfl

theorem Whl.Rep.next_cons {S : Whl} {d : Int × Int} {m : List (Int × Int)} (h : S.Rep (d :: m)) : leastAt (S.all 64) = d.1 := by
  have hd := h.mem (d := d) List.mem_cons_self
  obtain ⟨a1, a2⟩ := leastAt_gen (S.all 64) 1099511627777
  have hle : leastAt (S.all 64) ≤ d.1 := a2 d (h.perm.mem_iff.2 List.mem_cons_self)
  rcases leastAt_attained (S.all 64) 1099511627777 with h1 | ⟨x, hx, h1⟩
  · unfold leastAt at hle ⊢; omega
  · have hxm : x ∈ d :: m := h.perm.mem_iff.1 hx
    have : d.1 ≤ x.1 := by
      rcases List.mem_cons.1 hxm with rfl | hxm
      · omega
      · have := (List.pairwise_cons.1 h.srt).1 x hxm
        rw [ltD_iff] at this; omega
    unfold leastAt at hle ⊢; omega
end Go.Proofs.Ythmbbbdnfgefbaa
