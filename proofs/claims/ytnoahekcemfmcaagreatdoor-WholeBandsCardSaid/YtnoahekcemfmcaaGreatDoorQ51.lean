/- A part of the walk: Md. -/
import Derived.Test.YtnoahekcemfmcaaGreatDoorQ50
import Derived.Test.YtnoahekcemfmcaaGreatDoorCards
import Derived.Test.YtnoahekcemfmcaaGreatDoorTie
import Derived.ChangeVars
import Derived.JoinedOf
import Derived.LaidLaws
import Derived.LaidHandle
import Derived.LaidMore
import Derived.Lay
import Derived.MakeChecks
import Derived.SevenTiedAt
import Derived.Stop.Joined
namespace Go.Proofs.YtnoahekcemfmcaaGreatDoor
set_option linter.unusedVariables false
set_option linter.unusedSimpArgs false
end Go.Proofs.YtnoahekcemfmcaaGreatDoor
namespace Go.Proofs.YtnoahekcemfmcaaGreatDoor.wholeBandsDone
open Go.ChangeShapes Go.WideShapes Go.ChangeAt Go.RowKit
set_option linter.unusedVariables false
set_option maxHeartbeats 2000000 in
set_option maxRecDepth 100000 in
theorem lifted (os : Os) (started : os.Started) (H : Type) (enc : TypeId × Value → H) :
  ReturnsInHanded {} Tryz.checked os 4 .any (fun w args => (Rows.wholeBandsSpec.pre enc Tryz.prog Tryz.f4 Rows.wholeBandsRow.domain false w args ∧ laidMetH Tryz.prog Rows.wholeBandsRow.laid w) ∧ sizedMet enc Tryz.prog Tryz.f4 (OpenSpec.ofChange Rows.wholeBandsSpec) false w args)
   (Rows.wholeBandsSpec.post enc Tryz.prog Tryz.f4 false true false false) := by
 refine returnsInHanded_of_change_and (C := Tryz.checked) (X := fun w _ => laidMetH Tryz.prog Rows.wholeBandsRow.laid w) (fun _ _ _ hh h => h.of_heap hh) own started (by kernel_rfl) Tryz.func4
  (ChangeSpec.witness_shaped (enc := enc) (C := Tryz.checked) (os := os) (X := fun w _ => laidMetH Tryz.prog Rows.wholeBandsRow.laid w) false (World.laidAll Tryz.prog os Rows.wholeBandsRow.laid) #[.agg #[.int .i64 0, .slice none 0 0], .slice none 0 0] 8 (World.laidAll_os _ _ _)
   (World.shaped_of_ZipB (by kernel_rfl) (by kernel_rfl)) (by kernel_rfl) (by kernel_rfl) (by kernel_rfl)
   (by rw [MakeChecks.laidMetH_plain _ _ _ (by kernel_rfl)]; exact laidMet_laidAll _ (by kernel_rfl) (by kernel_rfl))) ?_
 intro W base args ds gs before hval0 hW hc hsz hL _
 have hval : ∀ (j : Nat) t v, Tryz.f4.params[j]? = some t → args[j]? = some v → Value.okWide Tryz.prog W .any base t v := hval0
 have hW' := hW
 obtain ⟨p, q, hA0, hV, rfl, hfz, hnd⟩ := hW
 have hA : DataW.TrodAll enc Tryz.prog W 0 (fun _ => true) true Tryz.f4.params.toList args.toList ds p := hA0
 rw [Tryz.params4] at hA hval
 obtain ⟨v0, vs0, d0, ds0, p0, q0, hargs, rfl, rfl, h0, r0⟩ := trodAll_cons hA
 obtain ⟨v1, vs1, d1, ds1, p1, q1, rfl, rfl, rfl, h1, r1⟩ := trodAll_cons r0
 obtain ⟨rfl, rfl, rfl⟩ := trodAll_nil r1
 obtain rfl : args = #[v0, v1] := by cases args; simp_all
 obtain ⟨rfl, rfl⟩ := trodVars_none hV
 have k0 := h0
 have k1 := h1
 have lt0 : ∀ x ∈ p0, x.block < W.heap.size := by obtain ⟨m, hm⟩ := k0; exact DataW.trod_lt m _ _ _ hm
 have lt1 : ∀ x ∈ p1, x.block < W.heap.size := by obtain ⟨m, hm⟩ := k1; exact DataW.trod_lt m _ _ _ hm
 obtain ⟨bu, a, n, c, tk, rfl, I0, L0, C0⟩ := set_of (hval 0 24 v0 rfl rfl) h0
 have hwt : ∀ n ∈ DataW.weights Tryz.prog 34 d1, n ≤ reachBytes := by
  intro n hn
  have hmem : n ∈ DataW.weightsEach Tryz.prog [24, 34] [d0, d1] := DataW.weights_mem_each (j := 1) (t := 34) (d := d1) rfl rfl n hn
  have hsz' : ((DataW.weightsEach Tryz.prog [24, 34] [d0, d1]).all fun x => decide (x ≤ reachBytes)) = true := by
   have e : Tryz.f4.params.toList ++ DataSpec.varTypes Tryz.checked.prog Rows.wholeBandsSpec.plain = [24, 34] := by rw [Tryz.params4]; rfl
   rw [e] at hsz
   exact hsz
  exact of_decide_eq_true (List.all_eq_true.1 hsz' n hmem)
 obtain ⟨a1, len1, cap1, rfl⟩ := okWide_slice Tryz.underlying34 (hval 1 34 v1 rfl rfl)
 obtain ⟨ai, ci, l, e1, I1, L1, M1⟩ : ∃ a c, ∃ l : List (List (Int × Int) × Bool), Value.slice a1 len1 cap1 = .slice a l.length c ∧ InsIn W.heap.size W a l ∧ l.length ≤ 9223372036854775807 ∧ ∀ x ∈ l, x.1.length ≤ 140737488355328 := by
  obtain ⟨fuel, hf⟩ := h1
  exact inputs_of (x := (d1, p1)) hf hwt
 cases e1
 clear hA0 hval0
 refine (bands_walk W.heap.size bu a n c tk _ _ l W I0 I1 (Nat.le_refl _) L0 C0 L1 M1).mono fun e W' ⟨he, bel⟩ => ?_
 subst he
 exact ⟨_, rfl, _, _, _, [], _, [], hW', trodAll_mk1 (shut_bool Tryz.underlying4 _), (trodAll_cons_mk (Below.trod laidOut (by kernel_rfl) (of_decide_eq_true (by kernel_rfl)) k0 bel lt0) (trodAll_cons_mk (Below.trod laidOut (by kernel_rfl) (of_decide_eq_true (by kernel_rfl)) k1 bel lt1) trodAll_mk0)), rfl, bel.frame _, fun h => by cases h⟩
theorem over : Rows.wholeBandsRow.holds Tryz.pinned (OpenSpec.ofChange Rows.wholeBandsSpec) :=
 OpenClaim.holds_of_wide 4 Tryz.f4 rfl rfl rfl rfl rfl rfl rfl ⟨rfl, rfl, rfl, rfl, rfl⟩ rfl rfl rfl rfl rfl (by kernel_rfl) Tryz.func4 (by kernel_rfl)
  (of_decide_eq_true (by kernel_rfl)) (by unfold Func.isWrapper; first | (rw [if_pos (by decide +kernel)]; kernel_rfl) | (rw [if_neg (by decide +kernel)]; exact ⟨rfl, rfl⟩))
  (fun os started H enc _ => lifted os started H enc)
theorem proved : Rows.WholeBandsCardSaid :=
 Claim7.holds_tied_plain_at .later [] [.data, .pinned] true (true, "6537da0c22dfd081b475b6a7c1c5e4a04af4c3010ebbdf39129f2a149bd56533") false over (fun _ h => by cases h) (by kernel_rfl) (fun _ h => by cases h) wholeBands_row_tie rfl ⟨rfl, rfl⟩ (by kernel_rfl) rfl
  (fun f fn hf hfn => by
   obtain rfl : f = 4 := Option.some.inj ((show Tryz.prog.funcNamed "pendulum/pendulumtop.WholeBands" = some 4 by kernel_rfl).symm.trans hf) |>.symm
   obtain rfl : fn = Tryz.f4 := (Option.some.inj (Tryz.func4.symm.trans hfn)).symm
   exact ⟨by kernel_rfl, fun j t ht => by
    rw [Tryz.params4] at ht
    have hm : t ∈ [24, 34] := by simpa using Array.mem_of_getElem? ht
    have hall : ([24, 34].all fun u => !Tryz.prog.wantsStandIn u) = true := by kernel_rfl
    exact (show Tryz.prog.wantsStandIn t = false by simpa using List.all_eq_true.1 hall t hm)⟩)
  (by kernel_rfl)
end Go.Proofs.YtnoahekcemfmcaaGreatDoor.wholeBandsDone
namespace Go.Proofs.YtnoahekcemfmcaaGreatDoor
set_option linter.unusedVariables false
set_option linter.unusedSimpArgs false
end Go.Proofs.YtnoahekcemfmcaaGreatDoor
