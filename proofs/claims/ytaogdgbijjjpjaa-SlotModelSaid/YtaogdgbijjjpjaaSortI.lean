/- THE SORT of numbers: the library's contract of slices.Sort, laid at this program (the laying's text was printed by the kit's command). -/
import Derived.Test.YtaogdgbijjjpjaaW1
import Derived.Shelf.SortM.Plain
import Derived.Sort.OwnSortedInts
namespace Go.Proofs.Ytaogdgbijjjpjaa
open Go.RowKit Go.Shelf Go.Lib Go.Sort
set_option linter.unusedVariables false

def Try.sortInts_ren : Go.Shelf.Ren := ⟨fun | 5 => 66 | 8 => 70 | 7 => 73 | 19 => 84 | 20 => 85 | 10 => 94 | 11 => 95 | 12 => 96 | 13 => 97 | 14 => 98 | 15 => 99 | 16 => 100 | 17 => 101 | 18 => 102 | 30 => 111 | 31 => 104 | 32 => 105 | 33 => 112 | 34 => 113 | 35 => 56 | 40 => 116 | n => n, fun | 23 => 70 | 25 => 3 | 3 => 3 | 32 => 105 | 22 => 70 | 0 => 0 | 44 => 118 | 46 => 120 | 4 => 4 | 36 => 112 | 35 => 111 | 41 => 87 | 5 => 5 | 9 => 9 | 53 => 131 | 57 => 135 | 63 => 141 | 64 => 142 | n => n, fun | n => n⟩
theorem Try.sortInts : Go.Proofs.SlLaysM.n5 Try.prog Try.sortInts_ren := {
  mixed := by kernel_rfl,
  f5 := ⟨Try.f66.name, by decide, Try.func66.trans (congrArg some (by kernel_rfl))⟩,
  f7 := ⟨Try.f73.name, by decide, Try.func73.trans (congrArg some (by kernel_rfl))⟩,
  f8 := Try.func70.trans (congrArg some (by kernel_rfl)),
  f10 := ⟨Try.f94.name, by decide, Try.func94.trans (congrArg some (by kernel_rfl))⟩,
  f11 := ⟨Try.f95.name, by decide, Try.func95.trans (congrArg some (by kernel_rfl))⟩,
  f12 := ⟨Try.f96.name, by decide, Try.func96.trans (congrArg some (by kernel_rfl))⟩,
  f13 := ⟨Try.f97.name, by decide, Try.func97.trans (congrArg some (by kernel_rfl))⟩,
  f14 := ⟨Try.f98.name, by decide, Try.func98.trans (congrArg some (by kernel_rfl))⟩,
  f15 := ⟨Try.f99.name, by decide, Try.func99.trans (congrArg some (by kernel_rfl))⟩,
  f16 := ⟨Try.f100.name, by decide, Try.func100.trans (congrArg some (by kernel_rfl))⟩,
  f17 := ⟨Try.f101.name, by decide, Try.func101.trans (congrArg some (by kernel_rfl))⟩,
  f18 := ⟨Try.f102.name, by decide, Try.func102.trans (congrArg some (by kernel_rfl))⟩,
  f19 := Try.func84.trans (congrArg some (by kernel_rfl)),
  f20 := Try.func85.trans (congrArg some (by kernel_rfl)),
  f30 := ⟨Try.f111.name, by decide, Try.func111.trans (congrArg some (by kernel_rfl))⟩,
  f31 := Try.func104.trans (congrArg some (by kernel_rfl)),
  f32 := Try.func105.trans (congrArg some (by kernel_rfl)),
  f33 := ⟨Try.f112.name, by decide, Try.func112.trans (congrArg some (by kernel_rfl))⟩,
  f34 := ⟨Try.f113.name, by decide, Try.func113.trans (congrArg some (by kernel_rfl))⟩,
  f35 := ⟨Try.f56.name, by decide, Try.func56.trans (congrArg some (by kernel_rfl))⟩,
  f40 := ⟨Try.f116.name, by decide, Try.func116.trans (congrArg some (by kernel_rfl))⟩,
  t0 := Try.underlying0,
  a0 := Try.isAgg0,
  z0 := Try.sizeOf0,
  v0 := Try.zeroValue0,
  t3 := Try.underlying3,
  a3 := Try.isAgg3,
  z3 := Try.sizeOf3,
  v3 := Try.zeroValue3,
  t4 := Try.underlying4,
  a4 := Try.isAgg4,
  z4 := Try.sizeOf4,
  v4 := Try.zeroValue4,
  t5 := Try.underlying5,
  a5 := Try.isAgg5,
  z5 := Try.sizeOf5,
  v5 := Try.zeroValue5,
  t9 := Try.underlying9,
  a9 := Try.isAgg9,
  z9 := Try.sizeOf9,
  v9 := Try.zeroValue9,
  t22 := Try.underlying70,
  a22 := Try.isAgg70,
  z22 := Try.sizeOf70,
  v22 := Try.zeroValue70,
  t23 := Try.underlying70,
  a23 := Try.isAgg70,
  z23 := Try.sizeOf70,
  v23 := Try.zeroValue70,
  t25 := Try.underlying3,
  a25 := Try.isAgg3,
  z25 := Try.sizeOf3,
  v25 := Try.zeroValue3,
  t32 := Try.underlying105,
  a32 := Try.isAgg105,
  z32 := Try.sizeOf105,
  v32 := Try.zeroValue105,
  t35 := Try.underlying111,
  a35 := Try.isAgg111,
  z35 := Try.sizeOf111,
  v35 := Try.zeroValue111,
  t36 := Try.underlying112,
  a36 := Try.isAgg112,
  z36 := Try.sizeOf112,
  v36 := Try.zeroValue112,
  t41 := Try.underlying87,
  a41 := Try.isAgg87,
  z41 := Try.sizeOf87,
  v41 := Try.zeroValue87,
  t44 := Try.underlying118,
  a44 := Try.isAgg118,
  z44 := Try.sizeOf118,
  v44 := Try.zeroValue118,
  t46 := Try.underlying120,
  a46 := Try.isAgg120,
  z46 := Try.sizeOf120,
  v46 := Try.zeroValue120,
  t53 := Try.underlying131,
  a53 := Try.isAgg131,
  z53 := Try.sizeOf131,
  v53 := Try.zeroValue131,
  t57 := Try.underlying135,
  a57 := Try.isAgg135,
  z57 := Try.sizeOf135,
  v57 := Try.zeroValue135,
  t63 := Try.underlying141,
  a63 := Try.isAgg141,
  z63 := Try.sizeOf141,
  v63 := Try.zeroValue141,
  t64 := Try.underlying142,
  a64 := Try.isAgg142,
  z64 := Try.sizeOf142,
  v64 := Try.zeroValue142 }


def leI (x y : Int) : Bool := decide (x ≤ y)
theorem sort_ownI (B g cap : Nat) (zs : List Int) (w : World) (hown : w.ownsRow B 3 1 (.slice (some ⟨g, 0, none⟩) zs.length cap) zs.length (zs.map (Value.int .i64))) (h0 : 0 < zs.length) (hsz : zs.length ≤ 4096) :
    Calls Try.prog 66 #[.slice (some ⟨g, 0, none⟩) zs.length cap] w fun e w' => e = .returned (.tuple #[]) ∧
      w'.ownsRow B 3 1 (.slice (some ⟨g, 0, none⟩) (zs.mergeSort fun x y => decide (x ≤ y)).length cap) (zs.mergeSort fun x y => decide (x ≤ y)).length ((zs.mergeSort fun x y => decide (x ≤ y)).map (Value.int .i64)) ∧ w.grownBy w' (some g) := by
  obtain ⟨h1, h2⟩ := hown
  rcases h2 with ⟨_, h2⟩ | ⟨g', cap', cur, hv, hb, hh, hc, hm, hs, ht⟩
  · omega
  · simp at hv
    obtain ⟨rfl, rfl⟩ := hv
    have hg : g < w.heap.size := (Array.getElem?_eq_some_iff.1 hh).1
    have hH := holds_of_blockI hh (by simpa using ht)
    have hcon := AnyM.slices_Sort_int Try.sortInts g 0 cap zs w hH hg (by omega)
    change Calls Try.prog 66 _ _ _ at hcon
    refine hcon.mono ?_
    rintro e w' ⟨rfl, n, os, rfl⟩
    have hl : (zs.mergeSort fun x y => decide (x ≤ y)).length = zs.length := List.length_mergeSort _
    refine ⟨rfl, ?_, grownBy_sortedI _⟩
    have := ownsRow_sortedI (n := n) (os := os) hl hb hh hc hm hs
    rw [hl]
    exact this
end Go.Proofs.Ytaogdgbijjjpjaa
