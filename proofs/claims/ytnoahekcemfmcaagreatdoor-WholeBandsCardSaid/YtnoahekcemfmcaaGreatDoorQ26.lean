/- A part of the walk: Xn. -/
import Derived.Test.YtnoahekcemfmcaaGreatDoorQ25
namespace Go.Proofs.YtnoahekcemfmcaaGreatDoor
set_option linter.unusedVariables false
set_option linter.unusedSimpArgs false
section
open Go.RowKit
theorem rstep_bd {t : Tk} {j : Jb} (ht : t.Ok) (h : JbOk t j) (hit : Bool) (hl : j.left ≤ 2147483648) :
  (rstep t j hit).1.left ≤ 2147483648 ∧ j.fails ≤ (rstep t j hit).1.fails ∧ (rstep t j hit).1.fails ≤ j.fails + 1 := by
 have hp : ∀ p, plen t j.dem p ≤ 2147483648 := fun p => by
  have a1 := ht.k1; have a2 := ht.cd; have a3 := ht.dt; have a4 := ht.tm; have a5 := h.dc
  unfold plen
  split
  ·rename_i e
   have := (ht.r1 e).2.1
   omega
  ·omega
 have ha : t.Mode ≠ 1 → t.A + t.Cost ≤ 2147483648 := fun e => by
  have a1 := ht.k1; have a3 := ht.dt; have a4 := ht.tm; have := (ht.r2 e).2.1
  omega
 have hp0 := hp j.part
 have hp1 := hp (j.part + 1)
 unfold rstep
 split
 ·simp only; omega
 ·split
  ·split
   ·simp only; omega
   ·simp only
    have := ha (by assumption)
    omega
  ·split
   ·simp only; omega
   ·simp only; omega
section
variable {B n : Nat} {A : XFix} {bu : Int} {tk : Nat → Tk} {w w' : World} {s : St} {out : List Ev} {Mx : Nat} {col : Nat → Nat} {F : Nat → Prop} {hm : List Q} {so : Value} {jbk : Nat → Nat} {gs : List Gate} {kj : Nat → Option Jb} {T : Nat → Prop}
theorem step_stays {s : St} {i : Nat} {J : Jb} (ht : (tk i).Ok) (h : JbOk (tk i) J ∧ 0 ≤ J.fails ∧ J.fails ≤ Mx ∧ J.left ≤ 2147483648 ∧ J.rel ≤ s.now) (hit : Bool) {J' : Jb} {c : Int} (hst : jstep (tk i) J hit = (J', c)) {s2 : St} (hs2 : s2 = { s with job := upd s.job i (some J'), last := (i : Int) })
  (hr : (runOut tk s2 i J' c).1 = s2) : (JbOk (tk i) J' ∧ 0 ≤ J'.fails ∧ J'.fails ≤ (Mx + 1 : Nat) ∧ J'.left ≤ 2147483648 ∧ J'.rel ≤ s.now) ∧ (c ≠ 3 → keyJ tk i J' = keyJ tk i J) := by
 obtain ⟨h1, h2, h3, h4, h5⟩ := h
 obtain ⟨_, l1, l2, l3, l4, l5, l6, _, l7, l8, _⟩ := rstep_laws ht h1 hit
 obtain ⟨b1, b2, b3⟩ := rstep_bd ht h1 hit h4
 rcases runOut_job (s := s) hit ht h1 with ⟨_, k1, k2, k3, k4⟩ | ⟨met, k⟩
 ·rw [hst] at k1 k2
  simp only [Prod.mk.injEq] at k1 k2
  obtain ⟨k2, k5⟩ := k2
  have e1 : J'.fails = (rstep (tk i) J hit).1.fails := by rw [k2]
  have e2 : J'.left = (rstep (tk i) J hit).1.left := by rw [k2]
  have e3 : J'.rel = (rstep (tk i) J hit).1.rel := by rw [k2]
  have e4 : J'.must = (rstep (tk i) J hit).1.must := by rw [k2]
  have e5 : urg (tk i) J' = urg (tk i) (rstep (tk i) J hit).1 := by rw [k2]; rfl
  refine ⟨⟨k1, by omega, by omega, by omega, by omega⟩, fun hc => ?_⟩
  have hu : urg (tk i) J' = urg (tk i) J := by
   rw [e5]
   cases hq : urg (tk i) J
   ·cases hq2 : urg (tk i) (rstep (tk i) J hit).1
    ·rfl
    ·rcases l7 hq2 with l | l
     ·rw [hq] at l; cases l
     ·exact absurd (k5.trans l) hc
   ·exact l6 hq
  unfold keyJ bandJ
  rw [e4, l3, hu, e3, l2]
 ·have e : (runOut tk s2 i J' c).1 = gone s2 i met := by
   have k' : (runOut tk { s with job := upd s.job i (some (jstep (tk i) J hit).1), last := (i : Int) } i (jstep (tk i) J hit).1 (jstep (tk i) J hit).2).1 = gone { s with job := upd s.job i (some (jstep (tk i) J hit).1), last := (i : Int) } i met := k
   rw [hst] at k'
   rw [hs2]
   exact k'
  rw [hr] at e
  have e2 : s2.job i = none := by rw [e]; exact upd_self _ _ _
  rw [hs2] at e2
  have e3 : upd s.job i (some J') i = none := e2
  rw [upd_self] at e3
  cases e3
theorem upd_upd {α : Type} (f : Nat → α) (i : Nat) (a b : α) : upd (upd f i a) i b = upd f i b := by
 funext k; unfold upd; split <;> rfl
theorem upd_id {α : Type} (f : Nat → α) (i : Nat) (a : α) (h : f i = a) : upd f i a = f := by
 funext k; unfold upd; split
 ·rename_i e; rw [e, h]
 ·rfl
theorem does_is (h : XW B A bu n tk w s out Mx col F hm so jbk gs kj) (i : Nat) (J J0 : Jb) (hi : i < n) (hJ : s.job i = some J) (hkj : kj = upd s.job i (some J0)) (c : Int) (fn : Nat) (hc : c = 1 ∧ fn = 72 ∨ c = 2 ∧ fn = 74 ∨ c = 3 ∧ fn = 73 ∨ c = 4 ∧ fn = 75)
  (hok : (runOut tk s i J c).1 = s → (JbOk (tk i) J ∧ 0 ≤ J.fails ∧ J.fails ≤ Mx ∧ J.left ≤ 2147483648 ∧ J.rel ≤ s.now) ∧ (c ≠ 3 → keyJ tk i J = keyJ tk i J0)) (ho : out.length ≤ 100000000) (hMx : Mx < 1000000) :
  Calls Tryz.prog fn #[.pointer (some ⟨A.x, 0, none⟩), .int .i64 i] w fun e w' => e = .returned (.tuple #[]) ∧
   ∃ col' so' hm', XW B A bu n tk w' (runOut tk s i J c).1 (out ++ (runOut tk s i J c).2) (Mx + 1) col' F hm' so' jbk gs (runOut tk s i J c).1.job ∧ XR col w col' w' := by
 have hk0 : kj i = some J0 := by rw [hkj]; exact upd_self _ _ _
 have hkJ : upd kj i (some J) = s.job := by rw [hkj, upd_upd, upd_id _ _ _ hJ]
 have hkN : upd kj i none = upd s.job i none := by rw [hkj, upd_upd]
 rcases hc with ⟨rfl, rfl⟩ | ⟨rfl, rfl⟩ | ⟨rfl, rfl⟩ | ⟨rfl, rfl⟩
 ·have e : runOut tk s i J 1 = (s, [tell tk s 5 i J]) := rfl
  rw [e] at hok ⊢
  obtain ⟨k1, k2⟩ := hok rfl
  refine (passed_is h i J hi hJ ho).mono ?_
  rintro e w' ⟨rfl, col', so', h', r'⟩
  have h2 := (h'.same hi hk0 J k1 (k2 (by omega))).mxle (Nat.le_succ _) (by omega)
  rw [hkJ] at h2
  exact ⟨rfl, col', so', _, h2, r'⟩
 ·by_cases c1 : J.over = true ∧ J.struck = true ∧ J.left = 0
  ·have e : runOut tk s i J 2 = (gone s i false, [tell tk s 10 i J]) := by unfold runOut; simp [c1]
   rw [e]
   refine (fail_10 h i J hi hJ ho hMx c1.1 c1.2.1 c1.2.2).mono ?_
   rintro e w' ⟨rfl, col', so', h', r'⟩
   rw [hkN] at h'
   exact ⟨rfl, col', so', _, h', r'⟩
  ·cases hm1 : J.must
   ·have e : runOut tk s i J 2 = (gone s i false, [tell tk s 11 i J]) := by unfold runOut; simp [c1, hm1]
    rw [e]
    have key : Calls Tryz.prog 74 #[.pointer (some ⟨A.x, 0, none⟩), .int .i64 i] w fun e w' => e = .returned (.tuple #[]) ∧ ∃ col' so', XW B A bu n tk w' (gone s i false) (out ++ [tell tk s 11 i J]) (Mx + 1) col' F (hm.filter fun x => !(x.2.2.2 == (i : Int))) so' jbk gs (upd kj i none) ∧ XR col w col' w' := by
     cases ho1 : J.over
     ·exact fail_11a h i J hi hJ ho hMx ho1 hm1
     ·cases hs1 : J.struck
      ·exact fail_11b h i J hi hJ ho hMx ho1 hs1 hm1
      ·exact fail_11c h i J hi hJ ho hMx ho1 hs1 (fun e => c1 ⟨ho1, hs1, e⟩) hm1
    refine key.mono ?_
    rintro e w' ⟨rfl, col', so', h', r'⟩
    rw [hkN] at h'
    exact ⟨rfl, col', so', _, h', r'⟩
   ·have e : runOut tk s i J 2 = (s, [tell tk s 6 i J]) := by unfold runOut; simp [c1, hm1]
    rw [e] at hok ⊢
    obtain ⟨k1, k2⟩ := hok rfl
    have key : Calls Tryz.prog 74 #[.pointer (some ⟨A.x, 0, none⟩), .int .i64 i] w fun e w' => e = .returned (.tuple #[]) ∧ ∃ col' so', XW B A bu n tk w' s (out ++ [tell tk s 6 i J]) Mx col' F hm so' jbk gs kj ∧ XR col w col' w' := by
     cases ho1 : J.over
     ·exact fail_6a h i J hi hJ ho hMx ho1 hm1
     ·cases hs1 : J.struck
      ·exact fail_6b h i J hi hJ ho hMx ho1 hs1 hm1
      ·exact fail_6c h i J hi hJ ho hMx ho1 hs1 (fun e => c1 ⟨ho1, hs1, e⟩) hm1
    refine key.mono ?_
    rintro e w' ⟨rfl, col', so', h', r'⟩
    have h2 := (h'.same hi hk0 J k1 (k2 (by omega))).mxle (Nat.le_succ _) (by omega)
    rw [hkJ] at h2
    exact ⟨rfl, col', so', _, h2, r'⟩
 ·have e : runOut tk s i J 3 = (s, [tell tk s 7 i J]) := rfl
  rw [e] at hok ⊢
  obtain ⟨k1, _⟩ := hok rfl
  refine (called_is h i J J0 hi hJ hk0 k1 ho).mono ?_
  rintro e w' ⟨rfl, col', so', h', r'⟩
  have h2 := h'.mxle (Nat.le_succ _) (by omega)
  rw [hkJ] at h2
  exact ⟨rfl, col', so', _, h2, r'⟩
 ·have e : runOut tk s i J 4 = (gone s i true, [tell tk s 8 i J]) := rfl
  rw [e]
  refine (done_is h i J hi hJ ho hMx).mono ?_
  rintro e w' ⟨rfl, col', so', h', r'⟩
  rw [hkN] at h'
  exact ⟨rfl, col', so', _, h', r'⟩
end
end
end Go.Proofs.YtnoahekcemfmcaaGreatDoor
