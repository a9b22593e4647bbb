/- THE SORT: the library's contract of slices.SortFunc, laid at this program (the laying's text was printed by the kit's command). -/
import Derived.Test.YthmbbbdnfgefbaaW2
import Derived.Shelf.SlSortCmp.WholeK
import Derived.Shelf.SlSortCmp.NoneTotal
import Derived.Sort.OwnSortedInts
namespace Go.Proofs.Ythmbbbdnfgefbaa
open Go.RowKit Go.Shelf Go.Lib Go.Sort
set_option linter.unusedVariables false

def Try.sortDue_ren : Go.Shelf.Ren := ⟨fun | 6 => 33 | 15 => 39 | 14 => 38 | 28 => 52 | 29 => 53 | 20 => 44 | 21 => 45 | 22 => 46 | 23 => 47 | 24 => 48 | 25 => 49 | 26 => 50 | 27 => 51 | 46 => 55 | 47 => 56 | 48 => 57 | 49 => 58 | 50 => 59 | 57 => 60 | n => n, fun | 22 => 28 | 24 => 30 | 25 => 77 | 3 => 3 | 39 => 83 | 0 => 0 | 53 => 47 | 55 => 96 | 4 => 4 | 46 => 89 | 45 => 88 | 50 => 39 | 5 => 5 | 9 => 9 | 66 => 97 | 70 => 101 | 76 => 103 | 77 => 104 | n => n, fun | n => n⟩
theorem Try.sortDue : Go.Proofs.SlLaysF0.n6 Try.prog Try.sortDue_ren := {
  mixed := by kernel_rfl,
  f6 := ⟨Try.f33.name, by decide, Try.func33.trans (congrArg some (by kernel_rfl))⟩,
  f14 := ⟨Try.f38.name, by decide, Try.func38.trans (congrArg some (by kernel_rfl))⟩,
  f15 := Try.func39.trans (congrArg some (by kernel_rfl)),
  f20 := ⟨Try.f44.name, by decide, Try.func44.trans (congrArg some (by kernel_rfl))⟩,
  f21 := ⟨Try.f45.name, by decide, Try.func45.trans (congrArg some (by kernel_rfl))⟩,
  f22 := ⟨Try.f46.name, by decide, Try.func46.trans (congrArg some (by kernel_rfl))⟩,
  f23 := ⟨Try.f47.name, by decide, Try.func47.trans (congrArg some (by kernel_rfl))⟩,
  f24 := ⟨Try.f48.name, by decide, Try.func48.trans (congrArg some (by kernel_rfl))⟩,
  f25 := ⟨Try.f49.name, by decide, Try.func49.trans (congrArg some (by kernel_rfl))⟩,
  f26 := ⟨Try.f50.name, by decide, Try.func50.trans (congrArg some (by kernel_rfl))⟩,
  f27 := ⟨Try.f51.name, by decide, Try.func51.trans (congrArg some (by kernel_rfl))⟩,
  f28 := Try.func52.trans (congrArg some (by kernel_rfl)),
  f29 := Try.func53.trans (congrArg some (by kernel_rfl)),
  f46 := ⟨Try.f55.name, by decide, Try.func55.trans (congrArg some (by kernel_rfl))⟩,
  f47 := Try.func56.trans (congrArg some (by kernel_rfl)),
  f48 := Try.func57.trans (congrArg some (by kernel_rfl)),
  f49 := ⟨Try.f58.name, by decide, Try.func58.trans (congrArg some (by kernel_rfl))⟩,
  f50 := ⟨Try.f59.name, by decide, Try.func59.trans (congrArg some (by kernel_rfl))⟩,
  f57 := ⟨Try.f60.name, by decide, Try.func60.trans (congrArg some (by kernel_rfl))⟩,
  t0 := Try.underlying0,
  a0 := Try.isAgg0,
  z0 := Try.sizeOf0,
  v0 := Try.zeroValue0,
  t3 := Try.underlying3,
  a3 := Try.isAgg3,
  z3 := Try.sizeOf3,
  v3 := Try.zeroValue3,
  t4 := Try.underlying4,
  a4 := Try.isAgg4,
  z4 := Try.sizeOf4,
  v4 := Try.zeroValue4,
  t5 := Try.underlying5,
  a5 := Try.isAgg5,
  z5 := Try.sizeOf5,
  v5 := Try.zeroValue5,
  t9 := Try.underlying9,
  a9 := Try.isAgg9,
  z9 := Try.sizeOf9,
  v9 := Try.zeroValue9,
  t22 := Try.underlying28,
  a22 := Try.isAgg28,
  z22 := Try.sizeOf28,
  v22 := Try.zeroValue28,
  t25 := Try.underlying77,
  a25 := Try.isAgg77,
  z25 := Try.sizeOf77,
  v25 := Try.zeroValue77,
  t39 := Try.underlying83,
  a39 := Try.isAgg83,
  z39 := Try.sizeOf83,
  v39 := Try.zeroValue83,
  t45 := Try.underlying88,
  a45 := Try.isAgg88,
  z45 := Try.sizeOf88,
  v45 := Try.zeroValue88,
  t46 := Try.underlying89,
  a46 := Try.isAgg89,
  z46 := Try.sizeOf89,
  v46 := Try.zeroValue89,
  t50 := Try.underlying39,
  a50 := Try.isAgg39,
  z50 := Try.sizeOf39,
  v50 := Try.zeroValue39,
  t53 := Try.underlying47,
  a53 := Try.isAgg47,
  z53 := Try.sizeOf47,
  v53 := Try.zeroValue47,
  t55 := Try.underlying96,
  a55 := Try.isAgg96,
  z55 := Try.sizeOf96,
  v55 := Try.zeroValue96,
  t66 := Try.underlying97,
  a66 := Try.isAgg97,
  z66 := Try.sizeOf97,
  v66 := Try.zeroValue97,
  t70 := Try.underlying101,
  a70 := Try.isAgg101,
  z70 := Try.sizeOf101,
  v70 := Try.zeroValue101,
  t76 := Try.underlying103,
  a76 := Try.isAgg103,
  z76 := Try.sizeOf103,
  v76 := Try.zeroValue103,
  t77 := Try.underlying104,
  a77 := Try.isAgg104,
  z77 := Try.sizeOf104,
  v77 := Try.zeroValue104 }

/-- An entry comes ahead of another. -/
def ltD (x y : Int × Int) : Bool := decide (x.1 < y.1 ∨ x.1 = y.1 ∧ x.2 < y.2)

theorem ltOf_cmpD (x y : Int × Int) : ltOf cmpD x y = ltD x y := by
  unfold ltOf cmpD or2 cmp3 ltD
  rw [decide_eq_decide]
  by_cases h1 : x.1 < y.1
  · simp [h1]
  · by_cases h2 : y.1 < x.1
    · simp [h1, h2]; omega
    · have e : x.1 = y.1 := by omega
      by_cases h3 : x.2 < y.2
      · simp [e, h3]
      · by_cases h4 : y.2 < x.2
        · simp [e, h3, h4]
        · simp [e, h3, h4]

theorem swoD : SWO (ltOf cmpD) where
  irrefl x := by rw [ltOf_cmpD]; simp [ltD]
  trans x y z h1 h2 := by rw [ltOf_cmpD] at *; simp [ltD] at *; omega
  ntrans x y z h1 h2 := by rw [ltOf_cmpD] at *; simp [ltD] at *; omega

theorem cmpLays (blk off size : Nat) (w : World) : CmpLays Try.prog 34 #[] dueC 2 cmpD blk off size w :=
  fun _ _ _ _ x y => before_any x y _

set_option maxHeartbeats 1000000 in
/-- slices.SortFunc over a row of entries that is the call's own. -/
theorem sort_row (blk off cap : Nat) (d : Array (Int × Int)) (w : World) (hH : HoldsK dueC 2 w blk off d) (hblk : blk < w.heap.size) (hsz : d.size < 4611686018427387904) :
    Calls Try.prog 33 #[.slice (some ⟨blk, off, none⟩) d.size cap, .func (.func 34) #[] #[]] w fun e w' => e = .returned (.tuple #[]) ∧
      ∃ d' n os, PermIn 0 d.size d d' ∧ SortedIn (ltOf cmpD) 0 d.size d' ∧ w' = sortWorldK dueC 2 w blk off n d' os := by
  have eg : ∀ args w, (callFunc 34 args).run Try.prog w = .ok (.enter 34 args) w := enters_of Try.func34 (by kernel_rfl) rfl
  have hcon := AnyQ.slices_SortFunc Try.sortDue 2 Try.isAgg30 Try.sizeOf30 dueC (fun _ => rfl) (fun x v hv => by simp [dueC] at hv; rcases hv with rfl | rfl <;> rfl) cmpD swoD 34 #[] blk off cap d w eg (cmpLays blk off d.size w) hH hblk hsz
  change Calls Try.prog 33 _ _ _ at hcon
  exact hcon

theorem flat_at (l : List (Int × Int)) (t : Nat) (h : t < l.length * 2) : (l.flatMap dueC)[t]? = (dueC (l[t / 2]'(by omega)))[t % 2]? := by
  have := flatMap_at dueC 2 dueC_length l (t / 2) (t % 2) (by omega) (by omega)
  rwa [show t / 2 * 2 + t % 2 = t from by omega] at this

theorem flat_length (l : List (Int × Int)) : (l.flatMap dueC).length = l.length * 2 := by
  induction l with
  | nil => rfl
  | cons x l ih => simp [List.flatMap_cons, dueC_length, ih]; omega

theorem flatK_toList (d : Array (Int × Int)) : (flatK dueC 2 d).toList = d.toList.flatMap dueC := by
  apply List.ext_getElem?
  intro t
  by_cases h : t < d.size * 2
  · rw [flat_at _ t (by simpa using h)]
    have h2 : t / 2 < d.size := by omega
    have h3 : t % 2 < 2 := by omega
    have e : (dueC d[t / 2])[t % 2]? = some ((dueC d[t / 2])[t % 2]'(by rw [dueC_length]; exact h3)) := List.getElem?_eq_getElem _
    simp only [Array.getElem_toList]
    rw [e]
    simp only [flatK, Array.toList_map, Array.toList_range, List.getElem?_map]
    rw [List.getElem?_range h]
    simp only [Option.map_some]
    rw [getElem!_pos d _ h2, getElem!_pos _ _ (by rw [dueC_length]; exact h3)]
  · rw [List.getElem?_eq_none (by simp; omega), List.getElem?_eq_none (by rw [flat_length]; simp; omega)]

theorem take_putCells (cur F : Array Value) (h : F.size ≤ cur.size) : (putCells id 0 F cur).toList.take F.size = F.toList := by
  apply List.ext_getElem?
  intro j
  by_cases hj : j < F.size
  · rw [List.getElem?_take_of_lt hj, Array.getElem?_toList]
    simp [putCells, hj, show j < cur.size by omega]
  · rw [List.getElem?_take_eq_none (by omega), List.getElem?_eq_none (by simp; omega)]

set_option maxHeartbeats 1000000 in
/-- slices.SortFunc on a slice of entries of one's own: the same entries, in order. -/
theorem sort_own (B : Nat) (a : Option Addr) (n cap : Nat) (l : List (Int × Int)) (w : World) (hown : w.ownsRow B 30 2 (.slice a n cap) l.length (l.flatMap dueC)) (hn : n = l.length) (hsz : l.length < 4611686018427387904) :
    Calls Try.prog 33 #[.slice a n cap, .func (.func 34) #[] #[]] w fun e w' => e = .returned (.tuple #[]) ∧
      ∃ l' : List (Int × Int), l'.Perm l ∧ l'.Pairwise (fun x y => ltD y x = false) ∧ w'.ownsRow B 30 2 (.slice a n cap) l'.length (l'.flatMap dueC) ∧ Fr (fun k => a.map (·.block) = some k) w w' := by
  subst hn
  by_cases h0 : l.length = 0
  · have hl : l = [] := List.eq_nil_of_length_eq_zero h0
    subst hl
    refine (AnyF.slices_SortFunc_none Try.sortDue a cap (.func (.func 34) #[] #[]) w).mono ?_
    rintro e w' ⟨rfl, rfl⟩
    exact ⟨rfl, [], List.Perm.refl _, List.Pairwise.nil, hown, Fr.refl _ _⟩
  · obtain ⟨h1, h2⟩ := hown
    rcases h2 with ⟨_, h2⟩ | ⟨g, cap', cur, hv, hb, hh, hc, hm, hs, ht⟩
    · omega
    · simp at hv
      obtain ⟨rfl, rfl⟩ := hv
      have hg : g < w.heap.size := (Array.getElem?_eq_some_iff.1 hh).1
      have hH : HoldsK dueC 2 w g 0 l.toArray := by
        intro j hj
        have hj' : j < l.length * 2 := by simpa using hj
        refine ⟨?_, by simp [World.frozen?, hh]⟩
        have e1 : (cur.toList.take (l.length * 2))[j]? = (l.flatMap dueC)[j]? := by rw [ht]
        rw [List.getElem?_take_of_lt hj'] at e1
        simp only [World.cell?, hh, Nat.zero_add]
        simp only [Option.isSome_none, Bool.false_eq_true, if_false]
        rw [← Array.getElem?_toList, e1]
        have e2 := flatK_toList l.toArray
        simp only at e2
        rw [← e2, Array.getElem?_toList, Array.getElem?_eq_getElem hj]
        show _ = some ((flatK dueC 2 l.toArray)[j]!)
        rw [getElem!_pos (flatK dueC 2 l.toArray) j hj]
      have := sort_row g 0 cap l.toArray w hH hg (by simpa using hsz)
      simp only [List.size_toArray] at this
      refine this.mono ?_
      rintro e w' ⟨rfl, d', m, os, hp, hso, rfl⟩
      have hsize : d'.size = l.length := by have := hp.1; simpa using this
      have hheap : (sortWorldK dueC 2 w g 0 m d' os).heap[g]? = some (.cells (putCells id 0 (flatK dueC 2 d') cur) 30 (0, 0)) := by
        unfold sortWorldK
        rw [heap_grow_old _ _ (by simpa [putRowK, putRow, mapBlock, Sort.ahead] using hg)]
        simp [putRowK, putRow, mapBlock, Sort.ahead, Array.getElem?_modify, hh, onCells]
      refine ⟨rfl, d'.toList, ?_, ?_, ⟨by rw [flat_length], .inr ⟨g, cap, _, by simp [hsize], hb, hheap, by simp [hsize]; omega, hm, by simp [putCells, hs], ?_⟩⟩, ?_⟩
      · have := hp.2.2
        rw [show d'.extract 0 l.length = d' from by rw [← hsize]; simp] at this
        simpa using this
      · rw [List.pairwise_iff_getElem]
        intro i j hi hj hij
        have := hso i j (Nat.zero_le _) hij (by simp at hj ⊢; omega)
        rw [ltOf_cmpD] at this
        simp at hi hj
        simpa [hi, hj] using this
      · have := take_putCells cur (flatK dueC 2 d') (by rw [size_flatK, hs, hsize]; exact Nat.mul_le_mul_right _ hc)
        rw [size_flatK] at this
        simp only [Array.length_toList]
        rw [this, flatK_toList]
      · refine ⟨rfl, rfl, rfl, by simp [sortWorldK, grow, putRowK, putRow, mapBlock, Sort.ahead], fun k hk hne => ?_⟩
        unfold sortWorldK
        rw [heap_grow_old _ _ (by simpa [putRowK, putRow, mapBlock, Sort.ahead] using hk)]
        have : g ≠ k := fun e => hne (by simp [e])
        simp [putRowK, putRow, mapBlock, Sort.ahead, Array.getElem?_modify, this]
end Go.Proofs.Ythmbbbdnfgefbaa
