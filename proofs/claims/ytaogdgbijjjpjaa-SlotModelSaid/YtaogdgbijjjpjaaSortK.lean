/- THE SORT of keys: the library's contract of slices.SortFunc, laid at this program (the laying's text was printed by the kit's command). Printed by wip/tools/hs_sort.py. -/
import Derived.Test.YtaogdgbijjjpjaaW6
import Derived.Shelf.SlSortCmp.WholeK
import Derived.Shelf.SlSortCmp.NoneTotal
import Derived.Sort.OwnSortedInts
namespace Go.Proofs.Ytaogdgbijjjpjaa
open Go.RowKit Go.Shelf Go.Lib Go.Sort
set_option linter.unusedVariables false

def Try.sortKey_ren : Go.Shelf.Ren := ⟨fun | 6 => 61 | 15 => 70 | 14 => 72 | 28 => 84 | 29 => 85 | 20 => 86 | 21 => 87 | 22 => 88 | 23 => 89 | 24 => 90 | 25 => 91 | 26 => 92 | 27 => 93 | 46 => 108 | 47 => 104 | 48 => 105 | 49 => 109 | 50 => 110 | 57 => 115 | n => n, fun | 22 => 27 | 24 => 23 | 25 => 25 | 3 => 3 | 39 => 105 | 0 => 0 | 53 => 118 | 55 => 120 | 4 => 4 | 46 => 112 | 45 => 111 | 50 => 87 | 5 => 5 | 9 => 9 | 66 => 131 | 70 => 135 | 76 => 141 | 77 => 142 | n => n, fun | n => n⟩
theorem Try.sortKey : Go.Proofs.SlLaysF0.n6 Try.prog Try.sortKey_ren := {
  mixed := by kernel_rfl,
  f6 := ⟨Try.f61.name, by decide, Try.func61.trans (congrArg some (by kernel_rfl))⟩,
  f14 := ⟨Try.f72.name, by decide, Try.func72.trans (congrArg some (by kernel_rfl))⟩,
  f15 := Try.func70.trans (congrArg some (by kernel_rfl)),
  f20 := ⟨Try.f86.name, by decide, Try.func86.trans (congrArg some (by kernel_rfl))⟩,
  f21 := ⟨Try.f87.name, by decide, Try.func87.trans (congrArg some (by kernel_rfl))⟩,
  f22 := ⟨Try.f88.name, by decide, Try.func88.trans (congrArg some (by kernel_rfl))⟩,
  f23 := ⟨Try.f89.name, by decide, Try.func89.trans (congrArg some (by kernel_rfl))⟩,
  f24 := ⟨Try.f90.name, by decide, Try.func90.trans (congrArg some (by kernel_rfl))⟩,
  f25 := ⟨Try.f91.name, by decide, Try.func91.trans (congrArg some (by kernel_rfl))⟩,
  f26 := ⟨Try.f92.name, by decide, Try.func92.trans (congrArg some (by kernel_rfl))⟩,
  f27 := ⟨Try.f93.name, by decide, Try.func93.trans (congrArg some (by kernel_rfl))⟩,
  f28 := Try.func84.trans (congrArg some (by kernel_rfl)),
  f29 := Try.func85.trans (congrArg some (by kernel_rfl)),
  f46 := ⟨Try.f108.name, by decide, Try.func108.trans (congrArg some (by kernel_rfl))⟩,
  f47 := Try.func104.trans (congrArg some (by kernel_rfl)),
  f48 := Try.func105.trans (congrArg some (by kernel_rfl)),
  f49 := ⟨Try.f109.name, by decide, Try.func109.trans (congrArg some (by kernel_rfl))⟩,
  f50 := ⟨Try.f110.name, by decide, Try.func110.trans (congrArg some (by kernel_rfl))⟩,
  f57 := ⟨Try.f115.name, by decide, Try.func115.trans (congrArg some (by kernel_rfl))⟩,
  t0 := Try.underlying0,
  a0 := Try.isAgg0,
  z0 := Try.sizeOf0,
  v0 := Try.zeroValue0,
  t3 := Try.underlying3,
  a3 := Try.isAgg3,
  z3 := Try.sizeOf3,
  v3 := Try.zeroValue3,
  t4 := Try.underlying4,
  a4 := Try.isAgg4,
  z4 := Try.sizeOf4,
  v4 := Try.zeroValue4,
  t5 := Try.underlying5,
  a5 := Try.isAgg5,
  z5 := Try.sizeOf5,
  v5 := Try.zeroValue5,
  t9 := Try.underlying9,
  a9 := Try.isAgg9,
  z9 := Try.sizeOf9,
  v9 := Try.zeroValue9,
  t22 := Try.underlying27,
  a22 := Try.isAgg27,
  z22 := Try.sizeOf27,
  v22 := Try.zeroValue27,
  t25 := Try.underlying25,
  a25 := Try.isAgg25,
  z25 := Try.sizeOf25,
  v25 := Try.zeroValue25,
  t39 := Try.underlying105,
  a39 := Try.isAgg105,
  z39 := Try.sizeOf105,
  v39 := Try.zeroValue105,
  t45 := Try.underlying111,
  a45 := Try.isAgg111,
  z45 := Try.sizeOf111,
  v45 := Try.zeroValue111,
  t46 := Try.underlying112,
  a46 := Try.isAgg112,
  z46 := Try.sizeOf112,
  v46 := Try.zeroValue112,
  t50 := Try.underlying87,
  a50 := Try.isAgg87,
  z50 := Try.sizeOf87,
  v50 := Try.zeroValue87,
  t53 := Try.underlying118,
  a53 := Try.isAgg118,
  z53 := Try.sizeOf118,
  v53 := Try.zeroValue118,
  t55 := Try.underlying120,
  a55 := Try.isAgg120,
  z55 := Try.sizeOf120,
  v55 := Try.zeroValue120,
  t66 := Try.underlying131,
  a66 := Try.isAgg131,
  z66 := Try.sizeOf131,
  v66 := Try.zeroValue131,
  t70 := Try.underlying135,
  a70 := Try.isAgg135,
  z70 := Try.sizeOf135,
  v70 := Try.zeroValue135,
  t76 := Try.underlying141,
  a76 := Try.isAgg141,
  z76 := Try.sizeOf141,
  v76 := Try.zeroValue141,
  t77 := Try.underlying142,
  a77 := Try.isAgg142,
  z77 := Try.sizeOf142,
  v77 := Try.zeroValue142 }

theorem ltOf_K (x y : Q) : ltOf cmpK x y = ltK x y := rfl
theorem swoK : SWO (ltOf cmpK) where
  irrefl x := by rw [ltOf_K]; exact totK.irr x
  trans x y z h1 h2 := by rw [ltOf_K] at *; exact totK.tr x y z h1 h2
  ntrans x y z h1 h2 := by rw [ltOf_K] at *; rw [ltK_not] at *; omega

theorem flat_q (l : List Q) (t : Nat) (h : t < l.length * 4) : (l.flatMap qc)[t]? = (qc (l[t / 4]'(by omega)))[t % 4]? := by
  have := flatMap_at qc 4 qc_length l (t / 4) (t % 4) (by omega) (by omega)
  rwa [show t / 4 * 4 + t % 4 = t from by omega] at this

theorem cmpLaysK (blk off size : Nat) (w : World) : CmpLays Try.prog 15 #[] qc 4 cmpK blk off size w :=
  fun _ _ _ _ x y => cmpK_any x y _

set_option maxHeartbeats 1000000 in
/-- slices.SortFunc over a row of entries that is the call's own. -/
theorem sort_rowK (blk off cap : Nat) (d : Array (Q)) (w : World) (hH : HoldsK qc 4 w blk off d) (hblk : blk < w.heap.size) (hsz : d.size < 4611686018427387904) :
    Calls Try.prog 61 #[.slice (some ⟨blk, off, none⟩) d.size cap, .func (.func 15) #[] #[]] w fun e w' => e = .returned (.tuple #[]) ∧
      ∃ d' n os, PermIn 0 d.size d d' ∧ SortedIn (ltOf cmpK) 0 d.size d' ∧ w' = sortWorldK qc 4 w blk off n d' os := by
  have eg : ∀ args w, (callFunc 15 args).run Try.prog w = .ok (.enter 15 args) w := enters_of Try.func15 (by kernel_rfl) rfl
  have hcon := AnyQ.slices_SortFunc Try.sortKey 4 Try.isAgg23 Try.sizeOf23 qc (fun _ => rfl) (fun x v hv => by simp [qc] at hv; rcases hv with rfl | rfl | rfl | rfl <;> rfl) cmpK swoK 15 #[] blk off cap d w eg (cmpLaysK blk off d.size w) hH hblk hsz
  change Calls Try.prog 61 _ _ _ at hcon
  exact hcon

theorem flatK_toList (d : Array (Q)) : (flatK qc 4 d).toList = d.toList.flatMap qc := by
  apply List.ext_getElem?
  intro t
  by_cases h : t < d.size * 4
  · rw [flat_q _ t (by simpa using h)]
    have h2 : t / 4 < d.size := by omega
    have h3 : t % 4 < 4 := by omega
    have e : (qc d[t / 4])[t % 4]? = some ((qc d[t / 4])[t % 4]'(by rw [qc_length]; exact h3)) := List.getElem?_eq_getElem _
    simp only [Array.getElem_toList]
    rw [e]
    simp only [flatK, Array.toList_map, Array.toList_range, List.getElem?_map]
    rw [List.getElem?_range h]
    simp only [Option.map_some]
    rw [getElem!_pos d _ h2, getElem!_pos _ _ (by rw [qc_length]; exact h3)]
  · rw [List.getElem?_eq_none (by simp; omega), List.getElem?_eq_none (by rw [flat_length]; simp; omega)]

theorem take_putCells (cur F : Array Value) (h : F.size ≤ cur.size) : (putCells id 0 F cur).toList.take F.size = F.toList := by
  apply List.ext_getElem?
  intro j
  by_cases hj : j < F.size
  · rw [List.getElem?_take_of_lt hj, Array.getElem?_toList]
    simp [putCells, hj, show j < cur.size by omega]
  · rw [List.getElem?_take_eq_none (by omega), List.getElem?_eq_none (by simp; omega)]

set_option maxHeartbeats 1000000 in
/-- slices.SortFunc on a slice of entries of one's own: the same entries, in order. -/
theorem sort_ownK (B : Nat) (a : Option Addr) (n cap : Nat) (l : List (Q)) (w : World) (hown : w.ownsRow B 23 4 (.slice a n cap) l.length (l.flatMap qc)) (hn : n = l.length) (hsz : l.length < 4611686018427387904) :
    Calls Try.prog 61 #[.slice a n cap, .func (.func 15) #[] #[]] w fun e w' => e = .returned (.tuple #[]) ∧
      ∃ l' : List (Q), l'.Perm l ∧ l'.Pairwise (fun x y => ltK y x = false) ∧ w'.ownsRow B 23 4 (.slice a n cap) l'.length (l'.flatMap qc) ∧ Fr (fun k => a.map (·.block) = some k) w w' := by
  subst hn
  by_cases h0 : l.length = 0
  · have hl : l = [] := List.eq_nil_of_length_eq_zero h0
    subst hl
    refine (AnyF.slices_SortFunc_none Try.sortKey a cap (.func (.func 15) #[] #[]) w).mono ?_
    rintro e w' ⟨rfl, rfl⟩
    exact ⟨rfl, [], List.Perm.refl _, List.Pairwise.nil, hown, Fr.refl _ _⟩
  · obtain ⟨h1, h2⟩ := hown
    rcases h2 with ⟨_, h2⟩ | ⟨g, cap', cur, hv, hb, hh, hc, hm, hs, ht⟩
    · omega
    · simp at hv
      obtain ⟨rfl, rfl⟩ := hv
      have hg : g < w.heap.size := (Array.getElem?_eq_some_iff.1 hh).1
      have hH : HoldsK qc 4 w g 0 l.toArray := by
        intro j hj
        have hj' : j < l.length * 4 := by simpa using hj
        refine ⟨?_, by simp [World.frozen?, hh]⟩
        have e1 : (cur.toList.take (l.length * 4))[j]? = (l.flatMap qc)[j]? := by rw [ht]
        rw [List.getElem?_take_of_lt hj'] at e1
        simp only [World.cell?, hh, Nat.zero_add]
        simp only [Option.isSome_none, Bool.false_eq_true, if_false]
        rw [← Array.getElem?_toList, e1]
        have e2 := flatK_toList l.toArray
        simp only at e2
        rw [← e2, Array.getElem?_toList, Array.getElem?_eq_getElem hj]
        show _ = some ((flatK qc 4 l.toArray)[j]!)
        rw [getElem!_pos (flatK qc 4 l.toArray) j hj]
      have := sort_rowK g 0 cap l.toArray w hH hg (by simpa using hsz)
      simp only [List.size_toArray] at this
      refine this.mono ?_
      rintro e w' ⟨rfl, d', m, os, hp, hso, rfl⟩
      have hsize : d'.size = l.length := by have := hp.1; simpa using this
      have hheap : (sortWorldK qc 4 w g 0 m d' os).heap[g]? = some (.cells (putCells id 0 (flatK qc 4 d') cur) 23 (0, 0)) := by
        unfold sortWorldK
        rw [heap_grow_old _ _ (by simpa [putRowK, putRow, mapBlock, Sort.ahead] using hg)]
        simp [putRowK, putRow, mapBlock, Sort.ahead, Array.getElem?_modify, hh, onCells]
      refine ⟨rfl, d'.toList, ?_, ?_, ⟨by rw [flat_length], .inr ⟨g, cap, _, by simp [hsize], hb, hheap, by simp [hsize]; omega, hm, by simp [putCells, hs], ?_⟩⟩, ?_⟩
      · have := hp.2.2
        rw [show d'.extract 0 l.length = d' from by rw [← hsize]; simp] at this
        simpa using this
      · rw [List.pairwise_iff_getElem]
        intro i j hi hj hij
        have := hso i j (Nat.zero_le _) hij (by simp at hj ⊢; omega)
        rw [ltOf_K] at this
        simp at hi hj
        simpa [hi, hj] using this
      · have := take_putCells cur (flatK qc 4 d') (by rw [size_flatK, hs, hsize]; exact Nat.mul_le_mul_right _ hc)
        rw [size_flatK] at this
        simp only [Array.length_toList]
        rw [this, flatK_toList]
      · refine ⟨rfl, rfl, rfl, by simp [sortWorldK, grow, putRowK, putRow, mapBlock, Sort.ahead], fun k hk hne => ?_⟩
        unfold sortWorldK
        rw [heap_grow_old _ _ (by simpa [putRowK, putRow, mapBlock, Sort.ahead] using hk)]
        have : g ≠ k := fun e => hne (by simp [e])
        simp [putRowK, putRow, mapBlock, Sort.ahead, Array.getElem?_modify, this]
end Go.Proofs.Ytaogdgbijjjpjaa
