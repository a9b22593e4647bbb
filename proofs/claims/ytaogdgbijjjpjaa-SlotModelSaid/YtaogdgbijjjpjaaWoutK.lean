/- WALKS: the reference's Without. -/
import Derived.Test.YtaogdgbijjjpjaaPutK
namespace Go.Proofs.Ytaogdgbijjjpjaa
open Go.RowKit
set_option linter.unusedVariables false

set_option maxHeartbeats 4000000 in
set_option maxRecDepth 100000 in
theorem withoutK_any (b4 o4 n c2 q : Nat) (l : List Q) (w : World) (hm : QsIn w.heap.size w (some ⟨b4, o4, none⟩) n l) (hc : n ≤ c2) (hc2 : c2 ≤ 9223372036854775807) (hn : n ≤ 1024) (hq : q < n) :
    Calls Try.prog 27 #[.slice (some ⟨b4, o4, none⟩) n c2, .int .i64 q] w fun e w' => ∃ v, e = .returned v ∧ w'.ownsRow w.heap.size 23 4 v (n - 1) ((l.take q ++ l.drop (q + 1)).flatMap qc) ∧ Below w.heap.size w w' := by
  have hll := hm.1
  obtain ⟨L1, hL1⟩ : ∃ L, L = l.take q := ⟨_, rfl⟩
  obtain ⟨L3, hL3⟩ : ∃ L, L = l.drop (q + 1) := ⟨_, rfl⟩
  have HS1 : Hid (∀ W, Below w.heap.size w W → Src W (.slice (some ⟨b4, o4, none⟩) q c2) q (L1.flatMap qc)) := fun W hW => by rw [hL1]; exact src_take hm hW (by omega)
  have HS3 : Hid (∀ W, Below w.heap.size w W → Src W (.slice (if c2 = q + 1 then some ⟨b4, o4, none⟩ else some ⟨b4, o4 + (q + 1) * 4, none⟩) (n - (q + 1)) (c2 - (q + 1))) (n - (q + 1)) (L3.flatMap qc)) := fun W hW => by rw [hL3]; exact src_drop hm hW (by omega) hc
  have Htk : Hid (L1.length = q) := by show _ = _; rw [hL1, List.length_take]; omega
  have Hdk : Hid (L3.length = n - (q + 1)) := by show _ = _; rw [hL3, List.length_drop, hll]
  rw [← hL1, ← hL3]
  have hP : Below w.heap.size w w := Below.refl _ _
  have k0 : (0 : Int) ≤ (q : Int) := by omega
  have k1 : (0 : Int) ≤ (q : Int) + 1 := by omega
  have k2 : (q : Int) ≤ (c2 : Int) := by omega
  have k3 : (q : Int) + 1 ≤ (n : Int) := by omega
  have k4 : (n : Int) ≤ (c2 : Int) := by omega
  have k5 : (q : Int) ≤ (n : Int) := by omega
  have hbk : 0 + q ≤ 4096 := by omega
  have hbk2 : 0 + q + (n - (q + 1)) ≤ 4096 := by omega
  have k6 : IntKind.i64.wrap ((q : Int) + 1) = (q : Int) + 1 := IntWalk.i64_in _ (by omega)
  have k7 : ((q : Int) + 1).toNat = q + 1 := by omega
  clear hL1 hL3 hm
  go_enter Try.func27, Try.ntmps27
  go_wp2_with fail
  go_region_held3 (fun w' => Below w.heap.size w w') ((focus repeat (first | (with_reducible assumption) | (with_reducible refine bel_alloc ?_ _) | (with_reducible refine bel_drew ?_))))
    (first | ((refine step_bel (w0 := w) ?_ (.tmp 5) (.tmp 8) ?_ 0 q [] L1 (Value.slice (some ⟨w.heap.size, 0, none⟩) 0 0) (Value.slice (some ⟨b4, o4, none⟩) q c2) ?_ ?_ ?_ ?_ ?_ Htk.out hbk ?_; rfl; rfl; rfl; rfl; (focus repeat (first | (with_reducible assumption) | (with_reducible refine bel_alloc ?_ _) | (with_reducible refine bel_drew ?_))); (focus repeat (first | (with_reducible assumption) | ((with_reducible refine own_lit _ _ _ ?_ ?_); (first | rfl | (simp; done)); (first | omega | (simp; omega))) | (with_reducible refine World.ownsRow.drew ?_))); (refine HS1.out _ ?_; (focus repeat (first | (with_reducible assumption) | (with_reducible refine bel_alloc ?_ _) | (with_reducible refine bel_drew ?_)))); intro v1 w1 hown1 hP1 hgrow1)) | ((refine step_bel (w0 := w) ?_ (.tmp 9) (.tmp 13) ?_ (0 + q) (n - (q + 1)) ([] ++ L1) L3 v1 (Value.slice (if c2 = q + 1 then some ⟨b4, o4, none⟩ else some ⟨b4, o4 + (q + 1) * 4, none⟩) (n - (q + 1)) (c2 - (q + 1))) ?_ ?_ ?_ ?_ ?_ Hdk.out hbk2 ?_; rfl; rfl; rfl; rfl; (with_reducible assumption); (with_reducible assumption); (refine HS3.out _ ?_; (with_reducible assumption)); intro v2 w2 hown2 hP2 hgrow2)))
  all_goals go_wp2_with fail
  all_goals
    go_ret
    refine ⟨v2, rfl, ?_, hP2⟩
    rw [show 0 + q + (n - (q + 1)) = n - 1 by omega] at hown2
    simpa using hown2
end Go.Proofs.Ytaogdgbijjjpjaa
