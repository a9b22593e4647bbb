/- THE PLAIN LAW of the wheel: what it holds, as one list in order. -/
import Derived.Test.YthmbbbdnfgefbaaW6
namespace Go.Proofs.Ythmbbbdnfgefbaa
open Go.RowKit
set_option linter.unusedVariables false

theorem ltD_iff (x y : Int × Int) : ltD x y = true ↔ x.1 < y.1 ∨ x.1 = y.1 ∧ x.2 < y.2 := by unfold ltD; simp
theorem ltD_not (x y : Int × Int) : ltD x y = false ↔ ¬ (x.1 < y.1 ∨ x.1 = y.1 ∧ x.2 < y.2) := by rw [← ltD_iff]; simp
theorem ltD_asymm {x y : Int × Int} (h : ltD x y = true) : ltD y x = false := by rw [ltD_iff] at h; rw [ltD_not]; omega
theorem ltD_trans {x y z : Int × Int} (h : ltD x y = true) (h' : ltD y z = true) : ltD x z = true := by rw [ltD_iff] at *; omega
theorem ltD_tri {x y : Int × Int} (h : ltD x y = false) (h' : ltD y x = false) : x = y := by
  rw [ltD_not] at *
  exact Prod.ext (by omega) (by omega)

def Srt (l : List (Int × Int)) : Prop := l.Pairwise fun x y => ltD x y = true

theorem srt_eq {l m : List (Int × Int)} (hp : l.Perm m) (hl : l.Pairwise fun x y => ltD y x = false) (hm : Srt m) : l = m := by
  refine List.Perm.eq_of_pairwise (le := fun x y => ltD y x = false) (fun a b _ _ h1 h2 => ltD_tri h2 h1) hl ?_ hp
  exact List.Pairwise.imp (fun h => ltD_asymm h) hm

theorem all_mem (S : Whl) (k : Nat) (d : Int × Int) : d ∈ S.all k ↔ ∃ i, i < k ∧ d ∈ S.b i := by
  unfold Whl.all; simp [List.mem_flatMap]

theorem all_put_perm (S : Whl) (i : Nat) (l : List (Int × Int)) (k : Nat) (hi : i < k) : ((S.put i l).all k ++ S.b i).Perm (S.all k ++ l) := by
  induction k with
  | zero => omega
  | succ k ih =>
    rw [all_succ, all_succ]
    by_cases h : i < k
    · have e : (S.put i l).b k = S.b k := by simp [Whl.put, show k ≠ i from by omega]
      rw [e, List.append_assoc, List.append_assoc]
      refine ((List.perm_append_comm (l₁ := S.b k)).append_left _).trans ?_
      rw [← List.append_assoc]
      refine ((ih h).append_right _).trans ?_
      rw [List.append_assoc]
      exact (List.perm_append_comm).append_left _
    · obtain rfl : i = k := by omega
      have e : (S.put i l).b i = l := by simp [Whl.put]
      have e2 : (S.put i l).all i = S.all i := by
        unfold Whl.all
        rw [List.flatMap_def, List.flatMap_def]
        congr 1
        apply List.map_congr_left
        intro j hj
        have : j < i := by simpa using hj
        simp [Whl.put, show j ≠ i from by omega]
      rw [e, e2, List.append_assoc, List.append_assoc]
      exact (List.perm_append_comm).append_left _

structure Whl.Rep (S : Whl) (m : List (Int × Int)) : Prop where
  ok : S.Ok
  pl : ∀ i, i < 64 → ∀ d ∈ S.b i, d.1 % 64 = (i : Int) ∧ S.now ≤ d.1 ∧ d.1 ≤ 1099511627776
  perm : (S.all 64).Perm m
  ids : (m.map (·.2)).Nodup
  srt : Srt m

theorem Whl.Rep.n {S : Whl} {m : List (Int × Int)} (h : S.Rep m) : S.n = m.length := by
  rw [h.ok.n, ← all_length, h.perm.length_eq]

theorem Whl.Rep.has {S : Whl} {m : List (Int × Int)} (h : S.Rep m) (id : Int) : S.has id = m.any fun d => d.2 == id := by
  rw [← h.perm.any_eq]
  unfold Whl.has Whl.all
  rw [List.any_flatMap]

theorem Whl.Rep.mem {S : Whl} {m : List (Int × Int)} (h : S.Rep m) {d : Int × Int} (hd : d ∈ m) : S.now ≤ d.1 ∧ d.1 ≤ 1099511627776 := by
  obtain ⟨i, hi, hb⟩ := (all_mem S 64 d).1 (h.perm.mem_iff.2 hd)
  exact (h.pl i hi d hb).2

theorem rep_empty (room : Nat) : (Whl.empty room).Rep [] := by
  refine ⟨⟨?_, by simp [Whl.empty], by simp [Whl.empty]⟩, by simp [Whl.empty], ?_, by simp, List.Pairwise.nil⟩
  · rw [← all_length]
    have : (Whl.empty room).all 64 = [] := by unfold Whl.all; simp [Whl.empty]
    rw [this]; rfl
  · have : (Whl.empty room).all 64 = [] := by unfold Whl.all; simp [Whl.empty]
    rw [this]

/-- An entry comes in, in order. -/
def ins (d : Int × Int) (m : List (Int × Int)) : List (Int × Int) := m.takeWhile (fun x => ltD x d) ++ d :: m.dropWhile fun x => ltD x d

theorem ins_perm (d : Int × Int) (m : List (Int × Int)) : (ins d m).Perm (d :: m) := by
  unfold ins
  refine (List.perm_middle).trans ?_
  rw [List.takeWhile_append_dropWhile]

theorem ins_srt {d : Int × Int} {m : List (Int × Int)} (h : Srt m) (hd : d ∉ m) : Srt (ins d m) := by
  unfold Srt ins
  have h' : Srt (m.takeWhile (fun x => ltD x d) ++ m.dropWhile fun x => ltD x d) := by rw [List.takeWhile_append_dropWhile]; exact h
  obtain ⟨h1, h2, h3⟩ := List.pairwise_append.1 h'
  rw [List.pairwise_append]
  refine ⟨h1, ?_, ?_⟩
  · rw [List.pairwise_cons]
    refine ⟨fun y hy => ?_, h2⟩
    cases hdw : m.dropWhile fun x => ltD x d with
    | nil => rw [hdw] at hy; simp at hy
    | cons z zs =>
      have hz : ltD z d = false := by
        have := List.head?_dropWhile_not (fun x => ltD x d) m
        rw [hdw] at this
        simpa using this
      have hzd : ltD d z = true := by
        cases hc : ltD d z
        · have := ltD_tri hz hc
          exact absurd ((List.dropWhile_sublist (fun x => ltD x d)).subset (by rw [hdw, this]; exact List.mem_cons_self)) hd
        · rfl
      rw [hdw] at hy h2
      rcases List.mem_cons.1 hy with rfl | hy
      · exact hzd
      · exact ltD_trans hzd ((List.pairwise_cons.1 h2).1 y hy)
  · intro x hx y hy
    have hxd : ltD x d = true := by
      have := List.all_eq_true.1 (List.all_takeWhile (l := m) (p := fun x => ltD x d)) x hx
      simpa using this
    rcases List.mem_cons.1 hy with rfl | hy
    · exact hxd
    · exact h3 x hx y hy

theorem any_false_iff {id : Int} {m : List (Int × Int)} (h : (m.any fun d => d.2 == id) = false) : id ∉ m.map (·.2) := by
  intro hc
  obtain ⟨d, hd, he⟩ := List.mem_map.1 hc
  have := List.any_eq_false.1 h d hd
  simp [he] at this

/-- ADD, plain. -/
def addM (now room : Int) (m : List (Int × Int)) (d : Int × Int) : Int × List (Int × Int) :=
  if d.1 < now ∨ 1099511627776 < d.1 then (1, m)
  else if (m.any fun x => x.2 == d.2) then (7, m)
  else if (m.length : Int) = room then (3, m)
  else (0, ins d m)

theorem Whl.Rep.add {S : Whl} {m : List (Int × Int)} (h : S.Rep m) (d : Int × Int) (hr : S.n ≤ S.room) (hr2 : S.room ≤ 1024) :
    (S.add d).1 = (addM S.now S.room m d).1 ∧ (S.add d).2.Rep (addM S.now S.room m d).2 ∧ (S.add d).2.now = S.now ∧ (S.add d).2.room = S.room ∧ (S.add d).2.n ≤ S.room := by
  unfold Whl.add addM
  by_cases hb : d.1 < S.now ∨ 1099511627776 < d.1
  · rw [if_pos hb, if_pos hb]; exact ⟨rfl, h, rfl, rfl, hr⟩
  · rw [if_neg hb, if_neg hb, h.has]
    cases ha : m.any fun x => x.2 == d.2
    · simp only [Bool.false_eq_true, if_false]
      have hn := h.n
      by_cases hf : S.n = S.room
      · rw [if_pos hf, if_pos (by omega)]; exact ⟨rfl, h, rfl, rfl, hr⟩
      · rw [if_neg hf, if_neg (by omega)]
        obtain ⟨i, hi⟩ : ∃ i, d.1.toNat % 64 = i := ⟨_, rfl⟩
        have hi64 : i < 64 := by omega
        have hnow := h.ok.now
        rw [hi]
        have hput := all_put_perm S i (S.b i ++ [d]) 64 hi64
        have hall : ((S.put i (S.b i ++ [d])).all 64).Perm (d :: S.all 64) := by
          have h1 : ((S.put i (S.b i ++ [d])).all 64 ++ S.b i).Perm (d :: S.all 64 ++ S.b i) := by
            refine hput.trans ?_
            rw [← List.append_assoc]
            exact (List.perm_append_comm).trans (by simp)
          exact (List.perm_append_right_iff _).1 h1
        have hnot : d ∉ m := fun hd => any_false_iff ha (List.mem_map.2 ⟨d, hd, rfl⟩)
        have hperm : ((S.put i (S.b i ++ [d])).all 64).Perm (ins d m) := hall.trans ((h.perm.cons d).trans (ins_perm d m).symm)
        refine ⟨rfl, ⟨⟨?_, ?_, hnow⟩, ?_, hperm, ?_, ins_srt h.srt hnot⟩, rfl, rfl, ?_⟩
        · show S.n + 1 = (S.put i (S.b i ++ [d])).total 64
          rw [← all_length, hall.length_eq]
          have := h.ok.n
          rw [← all_length] at this
          simp [this]
        · show S.n + 1 ≤ 1024
          omega
        · intro j hj x hx
          have hx' : x ∈ (S.put i (S.b i ++ [d])).b j := hx
          simp only [Whl.put] at hx'
          split at hx'
          · rename_i e; subst e
            rcases List.mem_append.1 hx' with hx' | hx'
            · exact h.pl j hj x hx'
            · have : x = d := by simpa using hx'
              subst this
              exact ⟨by omega, by show S.now ≤ _; omega, by omega⟩
          · exact h.pl j hj x hx'
        · have := (ins_perm d m).map (·.2)
          rw [this.nodup_iff]
          simp only [List.map_cons, List.nodup_cons]
          exact ⟨any_false_iff ha, h.ids⟩
        · show S.n + 1 ≤ S.room
          omega
    · rw [if_pos rfl, if_pos rfl]
      exact ⟨rfl, h, rfl, rfl, hr⟩
end Go.Proofs.Ythmbbbdnfgefbaa
