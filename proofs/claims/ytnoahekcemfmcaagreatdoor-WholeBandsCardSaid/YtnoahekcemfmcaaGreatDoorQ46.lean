/- A part of the walk: Lf Xv. -/
import Derived.Test.YtnoahekcemfmcaaGreatDoorQ45
import Derived.Test.YtnoahekcemfmcaaGreatDoorQ32
import Derived.Test.YtnoahekcemfmcaaGreatDoorQ44
namespace Go.Proofs.YtnoahekcemfmcaaGreatDoor
set_option linter.unusedVariables false
set_option linter.unusedSimpArgs false
section
open Go.RowKit
structure AdL (w : World) (ab b2 c2 : Nat) : Prop where
 c5 : w.cell? ⟨ab, 5, none⟩ = some (.int .i64 1)
 c6 : w.cell? ⟨ab, 6, none⟩ = some (.slice (some ⟨b2, 0, none⟩) 3 c2)
 c10 : w.cell? ⟨ab, 10, none⟩ = some (.int .i64 6)
 c14 : w.cell? ⟨ab, 14, none⟩ = some (.int .i64 0)
structure AdB (w : World) (ab : Nat) : Prop where
 ex : ∀ j, j < 15 → ∃ u, w.cell? ⟨ab, j, none⟩ = some u
 fz : ∀ o, w.frozen? ⟨ab, o, none⟩ = false
theorem AdB.fr {S : Nat → Prop} {w w' : World} {ab : Nat} (h : AdB w ab) (hf : Fr S w w') (hS : ¬ S ab) : AdB w' ab := by
 obtain ⟨u, hu⟩ := h.ex 0 (by omega)
 have hl := block_lt hu
 exact ⟨fun j hj => by obtain ⟨v, hv⟩ := h.ex j hj; exact ⟨v, (hf.cell (p := ⟨ab, j, none⟩) hl hS).trans hv⟩, fun o => (hf.frozen (p := ⟨ab, o, none⟩) hl hS).trans (h.fz o)⟩
theorem AdB.set {w : World} {ab : Nat} (h : AdB w ab) (j : Nat) (u : Value) : AdB (w.setCell ⟨ab, j, none⟩ u) ab :=
 ⟨fun i hi => by
  obtain ⟨v, hv⟩ := h.ex i hi
  by_cases e : i = j
  ·subst e; exact ⟨_, World.cell?_setCell_same _ _ _ hv⟩
  ·exact ⟨v, by rw [World.cell?_setCell_other _ _ _ _ (addr_ne (Ne.symm e))]; exact hv⟩, fun o => by rw [World.frozen?_setCell]; exact h.fz o⟩
theorem AdB.get {w : World} {ab : Nat} (h : AdB w ab) (j : Nat) (u : Value) (hj : j < 15) : (w.setCell ⟨ab, j, none⟩ u).cell? ⟨ab, j, none⟩ = some u := by
 obtain ⟨v, hv⟩ := h.ex j hj; exact World.cell?_setCell_same _ _ _ hv
theorem get_ne {w : World} {ab i j : Nat} {u : Value} (h : i ≠ j) : (w.setCell ⟨ab, j, none⟩ u).cell? ⟨ab, i, none⟩ = w.cell? ⟨ab, i, none⟩ := World.cell?_setCell_other _ _ _ _ (addr_ne (Ne.symm h))
theorem fr_set {a w : World} {ab : Nat} (h : Fr (fun q => q = ab) a w) (j : Nat) (u : Value) : Fr (fun q => q = ab) a (w.setCell ⟨ab, j, none⟩ u) := h.setCell (p := ⟨ab, j, none⟩) rfl u
theorem ad_five {w : World} {ab : Nat} (h : AdB w ab) (v5 v6 v7 v8 v9 : Value) : Fr (fun q => q = ab) w (((((w.setCell ⟨ab, 5, none⟩ v5).setCell ⟨ab, 6, none⟩ v6).setCell ⟨ab, 7, none⟩ v7).setCell ⟨ab, 8, none⟩ v8).setCell ⟨ab, 9, none⟩ v9) ∧
  AdB (((((w.setCell ⟨ab, 5, none⟩ v5).setCell ⟨ab, 6, none⟩ v6).setCell ⟨ab, 7, none⟩ v7).setCell ⟨ab, 8, none⟩ v8).setCell ⟨ab, 9, none⟩ v9) ab ∧
  (((((w.setCell ⟨ab, 5, none⟩ v5).setCell ⟨ab, 6, none⟩ v6).setCell ⟨ab, 7, none⟩ v7).setCell ⟨ab, 8, none⟩ v8).setCell ⟨ab, 9, none⟩ v9).cell? ⟨ab, 5, none⟩ = some v5 ∧
  (((((w.setCell ⟨ab, 5, none⟩ v5).setCell ⟨ab, 6, none⟩ v6).setCell ⟨ab, 7, none⟩ v7).setCell ⟨ab, 8, none⟩ v8).setCell ⟨ab, 9, none⟩ v9).cell? ⟨ab, 6, none⟩ = some v6 ∧
  ∀ j, j ≠ 5 → j ≠ 6 → j ≠ 7 → j ≠ 8 → j ≠ 9 → (((((w.setCell ⟨ab, 5, none⟩ v5).setCell ⟨ab, 6, none⟩ v6).setCell ⟨ab, 7, none⟩ v7).setCell ⟨ab, 8, none⟩ v8).setCell ⟨ab, 9, none⟩ v9).cell? ⟨ab, j, none⟩ = w.cell? ⟨ab, j, none⟩ :=
 ⟨fr_set (fr_set (fr_set (fr_set (fr_set (Fr.refl _ w) 5 v5) 6 v6) 7 v7) 8 v8) 9 v9, ((((h.set 5 v5).set 6 v6).set 7 v7).set 8 v8).set 9 v9,
  by rw [get_ne (by omega), get_ne (by omega), get_ne (by omega), get_ne (by omega)]; exact h.get 5 v5 (by omega), by rw [get_ne (by omega), get_ne (by omega), get_ne (by omega)]; exact (h.set 5 v5).get 6 v6 (by omega),
  fun j a b c d e => by rw [get_ne e, get_ne d, get_ne c, get_ne b, get_ne a]⟩
theorem ad_five2 {w : World} {ab : Nat} (h : AdB w ab) (v5 v6 v7 v8 v9 : Value) : Fr (fun q => q = ab) w (((((w.setCell ⟨ab, 10, none⟩ v5).setCell ⟨ab, 11, none⟩ v6).setCell ⟨ab, 12, none⟩ v7).setCell ⟨ab, 13, none⟩ v8).setCell ⟨ab, 14, none⟩ v9) ∧
  (((((w.setCell ⟨ab, 10, none⟩ v5).setCell ⟨ab, 11, none⟩ v6).setCell ⟨ab, 12, none⟩ v7).setCell ⟨ab, 13, none⟩ v8).setCell ⟨ab, 14, none⟩ v9).cell? ⟨ab, 10, none⟩ = some v5 ∧
  (((((w.setCell ⟨ab, 10, none⟩ v5).setCell ⟨ab, 11, none⟩ v6).setCell ⟨ab, 12, none⟩ v7).setCell ⟨ab, 13, none⟩ v8).setCell ⟨ab, 14, none⟩ v9).cell? ⟨ab, 14, none⟩ = some v9 ∧
  (∀ o, (((((w.setCell ⟨ab, 10, none⟩ v5).setCell ⟨ab, 11, none⟩ v6).setCell ⟨ab, 12, none⟩ v7).setCell ⟨ab, 13, none⟩ v8).setCell ⟨ab, 14, none⟩ v9).frozen? ⟨ab, o, none⟩ = false) ∧
  ∀ j, j < 10 → (((((w.setCell ⟨ab, 10, none⟩ v5).setCell ⟨ab, 11, none⟩ v6).setCell ⟨ab, 12, none⟩ v7).setCell ⟨ab, 13, none⟩ v8).setCell ⟨ab, 14, none⟩ v9).cell? ⟨ab, j, none⟩ = w.cell? ⟨ab, j, none⟩ :=
 ⟨fr_set (fr_set (fr_set (fr_set (fr_set (Fr.refl _ w) 10 v5) 11 v6) 12 v7) 13 v8) 14 v9,
  by rw [get_ne (by omega), get_ne (by omega), get_ne (by omega), get_ne (by omega)]; exact h.get 10 v5 (by omega), ((((h.set 10 v5).set 11 v6).set 12 v7).set 13 v8).get 14 v9 (by omega),
  (((((h.set 10 v5).set 11 v6).set 12 v7).set 13 v8).set 14 v9).fz,
  fun j hj => by rw [get_ne (by omega), get_ne (by omega), get_ne (by omega), get_ne (by omega), get_ne (by omega)]⟩
set_option maxHeartbeats 4000000 in
set_option maxRecDepth 100000 in
theorem lookc_is (w : World) (ab cb tb tc : Nat) (h0 : w.cell? ⟨cb, 0, none⟩ = some (.pointer (some ⟨ab, 0, none⟩))) (hA : AdB w ab) (ht : w.cell? ⟨ab, 0, none⟩ = some (.slice (some ⟨tb, 0, none⟩) textL.length tc)) (h4 : ∃ v : Int, w.cell? ⟨ab, 4, none⟩ = some (.int .i64 v))
  (hb : BytesIn w tb 0 textL) (hcap : textL.length ≤ tc) (n1 : cb ≠ ab) (n2 : tb ≠ ab) (hmu : w.cell? ⟨ab, 2, none⟩ = some (.int .i32 1)) :
  Calls Tryz.prog 86 #[.pointer (some ⟨cb, 0, none⟩)] w fun e w' => e = .returned (.tuple #[]) ∧ (∃ b2 c2, AdL w' ab b2 c2 ∧ TksIn w'.heap.size w' (some ⟨b2, 0, none⟩) 3 tkS ∧ 3 ≤ c2 ∧ w.heap.size ≤ b2) ∧ Fr (fun q => q = ab) w w' ∧ (∀ o, w'.frozen? ⟨ab, o, none⟩ = false) ∧ KeepsOnce ab 1 w w' := by
 obtain ⟨v4, h4⟩ := h4
 have hal := block_lt ht
 have hcl := block_lt h0
 have htl := block_lt (hb 0 (by rw [textL_len]; omega))
 have HAD := Lib.hid (aadd_is ⟨ab, 4, none⟩ v4 w h4 (hA.fz 4))
 have HC : Hid (∀ w1, Fr (fun q => q = ab) w w1 → w1.cell? ⟨cb, 0, none⟩ = some (.pointer (some ⟨ab, 0, none⟩))) := fun w1 hf => (hf.cell (p := ⟨cb, 0, none⟩) hcl n1).trans h0
 have HBY : Hid (∀ w1, Fr (fun q => q = ab) w w1 → BytesIn w1 tb 0 textL) := fun w1 hf => hb.keep (by rw [textL_len]; omega) hf n2
 have HH := Lib.hid (And.intro hA (And.intro ht hmu))
 clear hb hA ht hmu
 go_enter Tryz.func86, Tryz.ntmps86
 go_wp2_with (go_at_call 87; refine HAD.out.mono ?_; rintro e w1 ⟨⟨rr, rfl⟩, s4, hw1⟩)
 rw [← hw1]
 have F1 : Fr (fun q => q = ab) w w1 := by rw [hw1]; exact (Fr.refl (· = ab) w).setCell (p := ⟨ab, 4, none⟩) rfl _
 have hne : ∀ j, j ≠ 4 → w1.cell? ⟨ab, j, none⟩ = w.cell? ⟨ab, j, none⟩ := fun j hj => by rw [hw1, World.cell?_setCell_other _ _ _ _ (addr_ne (Ne.symm hj))]
 have hA1 : AdB w1 ab := ⟨fun j hj => by
  by_cases e : j = 4
  ·subst e; exact ⟨_, by rw [hw1]; exact World.cell?_setCell_same _ _ _ h4⟩
  ·obtain ⟨u, hu⟩ := HH.out.1.ex j hj; exact ⟨u, (hne j e).trans hu⟩, fun o => by rw [hw1, World.frozen?_setCell]; exact HH.out.1.fz o⟩
 have ht1 := (hne 0 (by omega)).trans HH.out.2.1
 have hm1 := Lib.hid ((hne 2 (by omega)).trans HH.out.2.2)
 have hc1 := HC.out w1 F1
 have HB1 := Lib.hid (HBY.out w1 F1)
 have hsz1 := F1.size
 have HF1 := Lib.hid F1
 have HA1 := Lib.hid hA1
 clear hw1 F1 hne hA1 HAD h4 h0 HH
 have HPS : Hid (∀ q, Calls Tryz.prog 88 #[.slice (some ⟨tb, 0, none⟩) textL.length tc] (w1.drewN q) _) := fun q => pset_stated (w1.drewN q) tb tc HB1.out (Nat.lt_of_lt_of_le htl hsz1) hcap
 have HEX : Hid (∀ w4, w4.os = w1.os → w4.tape = w1.tape → w4.output = w1.output → w1.heap.size ≤ w4.heap.size → (∀ k, k < w1.heap.size → w4.heap[k]? = w1.heap[k]?) → Below w1.heap.size w1 w4) := fun w4 a1 a2 a3 a4 a5 => ⟨a1, a2, a3, a4, a5⟩
 have hal1 : ab < w1.heap.size := Nat.lt_of_lt_of_le hal hsz1
 have hcl1 : cb < w1.heap.size := Nat.lt_of_lt_of_le hcl hsz1
 go_cut [] (fun wx => Hid (∃ b2 c2 w4, Below w1.heap.size w1 w4 ∧ TksIn w4.heap.size w4 (some ⟨b2, 0, none⟩) 3 tkS ∧ 3 ≤ c2 ∧ w1.heap.size ≤ b2 ∧ Fr (fun q => q = ab) w4 wx ∧ AdB wx ab ∧ wx.cell? ⟨ab, 5, none⟩ = some (.int .i64 1) ∧ wx.cell? ⟨ab, 6, none⟩ = some (.slice (some ⟨b2, 0, none⟩) 3 c2) ∧ ∀ j, j ≠ 5 → j ≠ 6 → j ≠ 7 → j ≠ 8 → j ≠ 9 → wx.cell? ⟨ab, j, none⟩ = w4.cell? ⟨ab, j, none⟩))
 case first =>
  go_region_law (go_simp; go_at_call 88; refine Calls.mono (by first | exact HPS.out _ | exact HPS.out 1 | exact HPS.out 0) ?_; rintro e w4 ⟨b2, c2, rfl, k1, k2, k3, hb4⟩; have HB4 := Lib.hid (HEX.out w4 hb4.os hb4.tape hb4.output hb4.size hb4.block); have hc4 := cell_bel HB4.out hc1; have HA4 := Lib.hid (HA1.out.fr (S := fun _ => False) (Fr.of_below HB4.out) (by simp)); obtain ⟨x5, e5⟩ := HA4.out.ex 5 (by omega); obtain ⟨x6, e6⟩ := HA4.out.ex 6 (by omega); obtain ⟨x7, e7⟩ := HA4.out.ex 7 (by omega); obtain ⟨x8, e8⟩ := HA4.out.ex 8 (by omega); obtain ⟨x9, e9⟩ := HA4.out.ex 9 (by omega); have z5 := HA4.out.fz 5; have z6 := HA4.out.fz 6; have z7 := HA4.out.fz 7; have z8 := HA4.out.fz 8; have z9 := HA4.out.fz 9; have HK := Lib.hid (And.intro k1 (And.intro k2 k3)); clear k1 k2 k3 hb4)
  all_goals
   have G := Lib.hid (ad_five HA4.out (.int .i64 1) (.slice (some ⟨b2, 0, none⟩) 3 c2) (.int .i64 0) (.int .i64 0) (.int .i64 0))
   clear e5 e6 e7 e8 e9 z5 z6 z7 z8 z9
   (try go_wp2_with fail)
   go_meet
   case rel => exact ⟨b2, c2, w4, HB4.out, HK.out.2.1, HK.out.2.2, HK.out.1, G.out.1, G.out.2.1, G.out.2.2.1, G.out.2.2.2.1, G.out.2.2.2.2⟩
 obtain ⟨b2, c2, w4, k1, k2, k3, k4, k5, k6, k7, k8, k9⟩ := hcut.out
 have K := Lib.hid (And.intro k1 (And.intro k5 k9))
 have hwc : w1.heap.size ≤ wc.heap.size := Nat.le_trans k1.size k5.size
 have hcc : wc.cell? ⟨cb, 0, none⟩ = some (.pointer (some ⟨ab, 0, none⟩)) := (k5.cell (p := ⟨cb, 0, none⟩) (Nat.lt_of_lt_of_le hcl1 k1.size) n1).trans (cell_bel k1 hc1)
 have hx : TksIn w4.heap.size wc (some ⟨b2, 0, none⟩) 3 tkS := k2.fr (Nat.le_refl _) k5 (fun b _ ⟨oo, ho⟩ e => by cases ho; omega)
 have HLS : Hid (∀ q, Calls Tryz.prog 9 #[.agg #[.int .i64 1, .slice (some ⟨b2, 0, none⟩) 3 c2]] (wc.drewN q) _) := fun q => least_stated (wc.drewN q) w4.heap.size b2 c2 hx k5.size k3
 have HEX2 : Hid (∀ w6, w6.os = wc.os → w6.tape = wc.tape → w6.output = wc.output → wc.heap.size ≤ w6.heap.size → (∀ k, k < wc.heap.size → w6.heap[k]? = wc.heap[k]?) → Below wc.heap.size wc w6) := fun w6 a1 a2 a3 a4 a5 => ⟨a1, a2, a3, a4, a5⟩
 have HX := Lib.hid hx
 have HA6 := Lib.hid k6
 have h34 := Lib.hid (And.intro k3 k4)
 have FIN : Hid (∀ w6 wx, Below wc.heap.size wc w6 → Fr (fun q => q = ab) w6 wx → wx.cell? ⟨ab, 10, none⟩ = some (.int .i64 6) → wx.cell? ⟨ab, 14, none⟩ = some (.int .i64 0) → (∀ o, wx.frozen? ⟨ab, o, none⟩ = false) → (∀ j, j < 10 → wx.cell? ⟨ab, j, none⟩ = w6.cell? ⟨ab, j, none⟩) →
   (∃ b2 c2, AdL wx ab b2 c2 ∧ TksIn wx.heap.size wx (some ⟨b2, 0, none⟩) 3 tkS ∧ 3 ≤ c2 ∧ w.heap.size ≤ b2) ∧ Fr (fun q => q = ab) w wx ∧ (∀ o, wx.frozen? ⟨ab, o, none⟩ = false) ∧ KeepsOnce ab 1 w wx) := fun w6 wx g1 g2 g3 g4 g5 g6 => by
  have F6 : Fr (fun q => q = ab) w w6 := ((HF1.out.trans (Fr.of_below (S := fun q => q = ab) k1) (U := fun q => q = ab) (fun _ _ e => e) (fun _ _ e => e)).trans k5 (U := fun q => q = ab) (fun _ _ e => e) (fun _ _ e => e)).trans (Fr.of_below (S := fun q => q = ab) g1) (fun _ _ e => e) (fun _ _ e => e)
  have hall : ∀ j, j < 10 → wx.cell? ⟨ab, j, none⟩ = wc.cell? ⟨ab, j, none⟩ := fun j hj => (g6 j hj).trans (g1.cell (p := ⟨ab, j, none⟩) (Nat.lt_of_lt_of_le hal1 hwc))
  have hold : ∀ j, j < 4 → wx.cell? ⟨ab, j, none⟩ = w1.cell? ⟨ab, j, none⟩ := fun j hj => (hall j (by omega)).trans ((k9 j (by omega) (by omega) (by omega) (by omega) (by omega)).trans (k1.cell (p := ⟨ab, j, none⟩) hal1))
  have hx2 : TksIn wx.heap.size wx (some ⟨b2, 0, none⟩) 3 tkS := fun h0 => by
   obtain ⟨bb, oo, e1, e2, e3⟩ := (hx.fr k5.size (Fr.of_below (S := fun _ => False) g1) (fun _ _ _ e => e)).fr (Nat.le_trans k5.size g1.size) g2 (fun b _ ⟨oo, ho⟩ e => by cases ho; omega) h0
   exact ⟨bb, oo, e1, Nat.lt_of_lt_of_le e2 (Nat.le_trans (Nat.le_trans k5.size g1.size) g2.size), e3⟩
  refine ⟨⟨b2, c2, ⟨(hall 5 (by omega)).trans k7, (hall 6 (by omega)).trans k8, g3, g4⟩, hx2, k3, by omega⟩, F6.trans g2 (fun _ _ e => e) (fun _ _ e => e), g5, ?_, ?_, g5 1, g5 2⟩
  ·obtain ⟨u, hu⟩ := HA1.out.ex 1 (by omega); exact ⟨u, (hold 1 (by omega)).trans hu⟩
  ·exact (hold 2 (by omega)).trans hm1.out
 clear hcut k1 k2 k3 k4 k5 k6 k9 HPS HEX hx
 go_wp2_with fail
 refine wp_region_held_drew (S := (fun w' => w'.cell? ⟨cb, 0, none⟩ = some (.pointer (some ⟨ab, 0, none⟩)) ∧ w'.cell? ⟨ab, 5, none⟩ = some (.int .i64 1) ∧ w'.cell? ⟨ab, 6, none⟩ = some (.slice (some ⟨b2, 0, none⟩) 3 c2) ∧ (∃ w6, Below wc.heap.size wc w6 ∧ Fr (fun q => q = ab) w6 w'))) (by kernel_rfl) ?hS0lf (fun hHeld => ?_)
 case hS0lf => (try dsimp only); exact ⟨hcc, k7, k8, wc, Below.refl _ _, (Fr.refl _ wc).drew⟩
 refine wtk (i := 0) ?_
 try simp only [Act.put, List.setIfInBounds_toArray, List.set]
 refine wtk (i := 1) ?_
 try simp only [Act.put, List.setIfInBounds_toArray, List.set]
 refine wtk (i := 2) ?_
 try simp only [Act.put, List.setIfInBounds_toArray, List.set]
 refine wtk (i := 3) ?_
 try simp only [Act.put, List.setIfInBounds_toArray, List.set]
 refine wtk (i := 4) ?_
 try simp only [Act.put, List.setIfInBounds_toArray, List.set]
 refine wtk (i := 5) ?_
 try simp only [Act.put, List.setIfInBounds_toArray, List.set]
 refine wtk (i := 6) ?_
 try simp only [Act.put, List.setIfInBounds_toArray, List.set]
 refine wpAnyH_ready (rs := [7]) (by kernel_rfl) (by simp) ?_
 refine arc (fun K hK => ?_) AllReadyH.nil
 go_simp
 go_at_call 9
 refine Calls.mono (by first | exact HLS.out _ | exact HLS.out 1 | exact HLS.out 0) ?_
 rintro e w6 ⟨late, rb, rfl, hb6⟩
 have HB6 := Lib.hid (HEX2.out w6 hb6.os hb6.tape hb6.output hb6.size hb6.block)
 have HA7 := Lib.hid (HA6.out.fr (S := fun _ => False) (Fr.of_below HB6.out) (by simp))
 obtain ⟨x10, e10⟩ := HA7.out.ex 10 (by omega)
 obtain ⟨x11, e11⟩ := HA7.out.ex 11 (by omega)
 obtain ⟨x12, e12⟩ := HA7.out.ex 12 (by omega)
 obtain ⟨x13, e13⟩ := HA7.out.ex 13 (by omega)
 obtain ⟨x14, e14⟩ := HA7.out.ex 14 (by omega)
 have z10 := HA7.out.fz 10
 have z11 := HA7.out.fz 11
 have z12 := HA7.out.fz 12
 have z13 := HA7.out.fz 13
 have z14 := HA7.out.fz 14
 clear hb6
 have KEEP : Hid (∀ w', Fr (fun q => q = ab) w6 w' → (∀ j, j < 10 → w'.cell? ⟨ab, j, none⟩ = w6.cell? ⟨ab, j, none⟩) → w'.cell? ⟨cb, 0, none⟩ = some (.pointer (some ⟨ab, 0, none⟩)) ∧ w'.cell? ⟨ab, 5, none⟩ = some (.int .i64 1) ∧ w'.cell? ⟨ab, 6, none⟩ = some (.slice (some ⟨b2, 0, none⟩) 3 c2) ∧ (∃ w6, Below wc.heap.size wc w6 ∧ Fr (fun q => q = ab) w6 w')) := fun w' f h =>
  ⟨(f.cell (p := ⟨cb, 0, none⟩) (Nat.lt_of_lt_of_le hcl1 (Nat.le_trans hwc HB6.out.size)) n1).trans (cell_bel HB6.out hcc), (h 5 (by omega)).trans (cell_bel HB6.out k7), (h 6 (by omega)).trans (cell_bel HB6.out k8), w6, HB6.out, f⟩
 refine hK.out _ _ ?hSlf8 (fun hHeld2 => ?hrlf8)
 case hSlf8 => (try dsimp only); exact ⟨cell_bel HB6.out hcc, cell_bel HB6.out k7, cell_bel HB6.out k8, w6, HB6.out, Fr.refl _ _⟩
 clear hK K hHeld
 have hHeld := hHeld2
 clear hHeld2
 try simp only [Act.put, List.setIfInBounds_toArray, List.set]
 refine wtk (i := 8) ?_
 try simp only [Act.put, List.setIfInBounds_toArray, List.set]
 refine wtk (i := 9) ?_
 try simp only [Act.put, List.setIfInBounds_toArray, List.set]
 refine wtk (i := 10) ?_
 try simp only [Act.put, List.setIfInBounds_toArray, List.set]
 refine wtk (i := 11) ?_
 try simp only [Act.put, List.setIfInBounds_toArray, List.set]
 refine wtk (i := 12) ?_
 try simp only [Act.put, List.setIfInBounds_toArray, List.set]
 refine wtk (i := 13) ?_
 try simp only [Act.put, List.setIfInBounds_toArray, List.set]
 refine wpAnyH_ready (rs := [14]) (by kernel_rfl) (by simp) ?_
 refine arc (fun K hK => ?_) AllReadyH.nil
 go_simp
 refine hK.out _ _ ?hSlf15 (fun hHeld2 => ?hrlf15)
 case hSlf15 => (try dsimp only); exact KEEP.out _ (fr_set (Fr.refl _ _) 10 _) (fun j hj => get_ne (by omega))
 clear hK K hHeld
 have hHeld := hHeld2
 clear hHeld2
 try simp only [Act.put, List.setIfInBounds_toArray, List.set]
 refine wtk (i := 15) ?_
 try simp only [Act.put, List.setIfInBounds_toArray, List.set]
 refine wtk (i := 16) ?_
 try simp only [Act.put, List.setIfInBounds_toArray, List.set]
 refine wpAnyH_ready (rs := [17]) (by kernel_rfl) (by simp) ?_
 refine arc (fun K hK => ?_) AllReadyH.nil
 go_simp
 refine hK.out _ _ ?hSlf18 (fun hHeld2 => ?hrlf18)
 case hSlf18 => (try dsimp only); exact KEEP.out _ (fr_set (fr_set (fr_set (fr_set (Fr.refl _ _) 10 _) 11 _) 12 _) 13 _) (fun j hj => by rw [get_ne (by omega), get_ne (by omega), get_ne (by omega), get_ne (by omega)])
 clear hK K hHeld
 have hHeld := hHeld2
 clear hHeld2
 try simp only [Act.put, List.setIfInBounds_toArray, List.set]
 refine wtk (i := 18) ?_
 try simp only [Act.put, List.setIfInBounds_toArray, List.set]
 refine wtk (i := 19) ?_
 try simp only [Act.put, List.setIfInBounds_toArray, List.set]
 refine wpAnyH_ready (rs := [20]) (by kernel_rfl) (by simp) ?_
 refine arc (fun K hK => ?_) AllReadyH.nil
 go_simp
 refine hK.out _ _ ?hSlf21 (fun hHeld2 => ?hrlf21)
 case hSlf21 => (try dsimp only); exact KEEP.out _ (fr_set (fr_set (fr_set (fr_set (fr_set (Fr.refl _ _) 10 _) 11 _) 12 _) 13 _) 14 _) (fun j hj => by rw [get_ne (by omega), get_ne (by omega), get_ne (by omega), get_ne (by omega), get_ne (by omega)])
 clear hK K hHeld
 have hHeld := hHeld2
 clear hHeld2
 try simp only [Act.put, List.setIfInBounds_toArray, List.set]
 refine wpAnyH_done (by kernel_rfl) ?_ _
 have G := Lib.hid (ad_five2 HA7.out (.int .i64 6) (.bool true) (.int .i64 late) (.slice (some ⟨rb, 0, none⟩) 3 3) (.int .i64 0))
 have GF := Lib.hid (FIN.out w6 _ HB6.out G.out.1 G.out.2.1 G.out.2.2.1 G.out.2.2.2.1 G.out.2.2.2.2)
 clear e10 e11 e12 e13 e14 z10 z11 z12 z13 z14 G hHeld
 (try go_wp2_with fail)
 go_end0
 exact ⟨rfl, GF.out⟩
end
section
open Go.RowKit
section
variable {B n : Nat} {A : XFix} {bu : Int} {tk : Nat → Tk} {w w' : World} {s : St} {out : List Ev} {Mx : Nat} {col : Nat → Nat} {F : Nat → Prop} {hm : List Q} {so : Value} {jbk : Nat → Nat} {gs : List Gate} {kj : Nat → Option Jb} {T : Nat → Prop}
theorem tick_now {s s' : St} {rs : List (Int × Int)} {hit : Bool} {ev : List Ev} (h : Tick1 tk n s rs hit s' ev) : s'.now = s.now + 1 := by
 cases h with
 | mk h2 h3 =>
  show _ + 1 = _
  rw [run_now h3, (rels_same h2).1, (late_to (tk := tk) s n).1.now]
theorem inv_zero (hok : ∀ k, k < n → (tk k).Ok) : Inv tk n 0 (St0 tk) :=
 ⟨fun i j hi e => (by cases e), fun i j hi e => (by cases e), fun i j hi e => (by cases e), fun i hi => by
  have := (hok i hi).c1; have := (hok i hi).cd; have := (hok i hi).dt
  show (0 : Int) ≤ 0 - 0 + _
  omega, fun i hi => Int.le_refl _⟩
theorem RelsIn.more {B2 : Nat} {a : Option Addr} {rs : List (Int × Int)} (h : RelsIn B w a rs) (hb : B ≤ B2) : RelsIn B2 w a rs := fun h0 => by
 obtain ⟨b, off, e, hlt, hc⟩ := h h0
 exact ⟨b, off, e, by omega, hc⟩
theorem relsN_app (l m : List (List (Int × Int) × Bool)) : relsN (l ++ m) = relsN l + relsN m := by
 unfold relsN; rw [List.map_append, List.sum_append]
set_option maxHeartbeats 4000000 in
set_option maxRecDepth 100000 in
theorem srun_even (B : Nat) (bu : Int) (a : Option Addr) (n c : Nat) (tk : Nat → Tk) (ai : Option Addr) (ci : Nat) (l : List (List (Int × Int) × Bool)) (w : World) (h : SetOk bu n tk) (hx : TksIn B w a n tk) (hi : InsIn B w ai l) (hB : B ≤ w.heap.size) (hnc : n ≤ c)
  (hl : l.length ≤ 10000) (hr : relsN l ≤ 100000) (kd : Int) (hkd : kd = 1 ∨ kd = 2) :
  Calls Tryz.prog 11 #[.agg #[.int .i64 bu, .slice a n c], .int .i64 kd, .slice ai l.length ci] w fun e w' => ∃ v s' ev, e = .returned (.tuple #[v, .int .i64 0]) ∧ Ticks tk n (St0 tk) l s' ev ∧ w'.ownsRow w.heap.size 44 5 v ev.length (ev.flatMap evc) ∧ Below w.heap.size w w' := by
 have hb0 := bel_alloc (Below.refl w.heap.size w) (.cells #[.int .i64 bu, .slice a n c] 24)
 have hx1 := hx.keep (hb0.mono hB)
 have HN := Lib.hid (xnew_even B bu a n c tk (w.alloc (.cells #[.int .i64 bu, .slice a n c] 24)) h hx1 (Nat.le_trans hB hb0.size) hnc kd hkd)
 have HI := Lib.hid hi
 have HS := Lib.hid h
 have hn16 := h.n2
 have hlI : (l.length : Int) ≤ 10000 := by omega
 have hl0 : decide ((100000 : Int) < (l.length : Int)) = false := decide_eq_false (by omega)
 have HB0 := Lib.hid hb0
 clear hx hx1 hi h hb0
 go_enter Tryz.func11, Tryz.ntmps11
 go_wp2_with (go_at_call 16; refine HN.out.mono ?_; rintro e w1 ⟨A, col1, F1, jb1, gs1, rfl, hX, hb1, hc1⟩; have HX := Lib.hid hX; have HB1 := Lib.hid hb1; have HC1 := Lib.hid hc1; clear HN hX hb1 hc1)
 obtain ⟨B1, hB1⟩ : ∃ B1, B1 = (w.alloc (.cells #[.int .i64 bu, .slice a n c] 24)).heap.size := ⟨_, rfl⟩
 rw [← hB1] at HX HB1 HC1
 have hwB : w.heap.size ≤ B1 := by rw [hB1]; simp
 have hB1w : B1 ≤ w1.heap.size := by rw [hB1]; exact HB1.out.size
 have HIS : Hid (∀ W, Fr (fun q => col1 q ≠ 0) w1 W → InsIn B W ai l) := fun W hf =>
  (HI.out.keep hB (Fr.of_below (S := fun _ => False) (HB0.out.trans ((HB1.out).mono hwB))) (fun _ _ t => t)).keep (by omega) hf (fun b hb e => e (HC1.out b (by omega)))
 clear HI hB1
 obtain ⟨i4, ki4, kz4, kz5, kz6⟩ := info_parts Tryz.info44
 go_loopw [30, 10, 12, 13, 14] (fun ix s10 s12 s13 s14 wx => ∃ k : Nat, k ≤ l.length ∧ ix = .int .i64 k ∧ Hid (∃ s ev col so F hm jbk gs out', Ticks tk n (St0 tk) (l.take k) s ev ∧ Inv tk n 0 s ∧ s.now = k ∧ ev.length ≤ k * (n + 2) + relsN (l.take k) ∧ XW B1 A bu n tk wx s out' (k * (n + 2) + relsN (l.take k)) col F hm so jbk gs s.job ∧ XR col1 w1 col wx ∧ wx.ownsRow w1.heap.size 44 5 s10 ev.length (ev.flatMap evc) ∧ ∀ q, s10.ownBlock = some q → col q = 0)) (fun ix _ _ _ _ _ => l.length - (intOf ix).toNat)
 case atStart => exact ⟨0, Nat.zero_le _, rfl, St0 tk, [], col1, .slice none 0 0, F1, [], jb1, gs1, [], .nil _, inv_zero HS.out.ok, rfl, by simp, by simpa [relsN] using HX.out, XR.refl _ _, World.ownsRow_nil _ _ _ _, fun q e => by simp [Value.ownBlock] at e⟩
 case round =>
  obtain ⟨k, hk, rfl, HR⟩ := hrel
  by_cases hlt : k < l.length
  ·have hkI : (k : Int) < (l.length : Int) := by omega
   have hk0 : (0 : Int) ≤ (k : Int) := by omega
   have hdl : decide ((k : Int) < (l.length : Int)) = true := decide_eq_true hkI
   obtain ⟨s, ev, col, so, F, hm, jbk, gs, out', q1, q2, q3, q4, q5, q6, q7, q8⟩ := HR.out
   obtain ⟨a10, c10, h10⟩ := ownsRow_form q7
   subst h10
   obtain ⟨b, off, hai, hbB, hcs⟩ := (HIS.out wr q6.fr) (by omega)
   subst hai
   obtain ⟨aj, cj, c0, c1, c2⟩ := hcs k hlt
   have hrt := relsN_take l k hlt
   have hrl : relsN (l.take (k + 1)) ≤ relsN l := by
    have := relsN_app (l.take (k + 1)) (l.drop (k + 1))
    rw [List.take_append_drop] at this
    omega
   obtain ⟨x, hxk⟩ : ∃ x, x = l[k] := ⟨_, rfl⟩
   rw [← hxk] at c0 c1 c2 hrt
   have htk := take_more l k hlt
   rw [← hxk] at htk
   have hbb := bel_alloc (Below.refl wr.heap.size wr) (.cells #[.slice aj x.1.length cj, .bool x.2] 55)
   have hkn : k * (n + 2) ≤ 10000 * (n + 2) := Nat.mul_le_mul_right _ (by omega)
   have hk1 : (k + 1) * (n + 2) = k * (n + 2) + n + 2 := by rw [Nat.add_mul]; omega
   have HT := Lib.hid (tick_is (q5.below hbb) q2 aj cj x.1 ((c2.more (by omega)).keep (by have := q5.low.1; omega) (Fr.of_below (S := fun _ => False) hbb) (fun _ _ t => t)) x.2 (by omega) (by omega) (by omega))
   have HQ : Hid (Ticks tk n (St0 tk) (l.take k) s ev ∧ s.now = k ∧ ev.length ≤ k * (n + 2) + relsN (l.take k) ∧ wr.ownsRow w1.heap.size 44 5 (.slice a10 ev.length c10) ev.length (ev.flatMap evc) ∧ (∀ q, (Value.slice a10 ev.length c10).ownBlock = some q → col q = 0) ∧ XR col1 w1 col wr ∧ B1 ≤ wr.heap.size) := ⟨q1, q3, q4, q7, q8, q6, q5.low.1⟩
   have hE : ev.length ≤ 400000 := by omega
   have hxl : x.1.length ≤ 100000 := by omega
   have HXK := Lib.hid hxk
   have HTK := Lib.hid htk
   have HRT := Lib.hid hrt
   have HK1 := Lib.hid hk1
   clear q1 q2 q3 q4 q5 q6 q7 q8 HR hcs c2 hxk htk hrt hk1 hrl hkn
   have HBB := Lib.hid hbb
   clear hbb
   go_wp2_with (first | (go_at_call 18; refine HT.out.mono ?_; rintro e w6 ⟨v6, s6, ev6, rfl, p1, p2, p3, col6, so6, F6, hm6, jb6, gs6, out6, H6, R6, p4⟩; obtain ⟨a6, c6, h6⟩ := ownsRow_form p3; subst h6; have hE6 : ev6.length ≤ 200000 := by { have := events_few p1; omega }; have hF6 : Fr (fun q => col q ≠ 0) wr w6 := (Fr.of_below (S := fun _ => False) HBB.out).trans R6.fr (fun _ _ t => t.elim) (fun _ _ t => t); have HO10 := Lib.hid (own_fr2 HQ.out.2.2.2.1 hF6 (fun q e t => t (HQ.out.2.2.2.2.1 q e))); have HP1 := Lib.hid p1; have HP2 := Lib.hid p2; have HP3 := Lib.hid p3; have HP4 := Lib.hid p4; have HH6 := Lib.hid H6; have HR6 := Lib.hid R6; have hs16 : w1.heap.size ≤ w6.heap.size := Nat.le_trans HQ.out.2.2.2.2.2.1.fr.size hF6.size; have HF6 := Lib.hid hF6; clear p1 p2 p3 p4 H6 R6 HT hF6) | (at_builtin; refine wpList_append_row rfl _ _ 36 rfl w1.heap.size 44 i4 _ 5 40 Tryz.underlying36 ki4 kz4 kz5 kz6 rfl (by omega) (.slice a10 ev.length c10) ev.length (ev.flatMap evc) rfl HO10.out (.slice a6 ev6.length c6) ev6.length (ev6.flatMap evc) rfl (evs_len ev6) (own_src HP3.out (fun e => by rw [List.eq_nil_of_length_eq_zero e]; rfl) (fun _ _ _ => rfl)) (evs_one ev6) (by unfold maxLen; omega) (by omega) hs16 ?_; intro v7 w7 own7 gr7 at7))
   have HN : Hid (∃ s ev col so F hm jbk gs out', Ticks tk n (St0 tk) (l.take (k + 1)) s ev ∧ Inv tk n 0 s ∧ s.now = k + 1 ∧ ev.length ≤ (k + 1) * (n + 2) + relsN (l.take (k + 1)) ∧ XW B1 A bu n tk w7 s out' ((k + 1) * (n + 2) + relsN (l.take (k + 1))) col F hm so jbk gs s.job ∧ XR col1 w1 col w7 ∧ w7.ownsRow w1.heap.size 44 5 v7 ev.length (ev.flatMap evc) ∧ ∀ q, v7.ownBlock = some q → col q = 0) := by
    obtain ⟨r1, r2, r3, r4, r5, r6, r7⟩ := HQ.out
    have hev := events_few HP1.out
    have hg7 : Fr (fun q => (Value.slice a10 ev.length c10).ownBlock = some q) w6 w7 := Fr.grown (Fr.refl _ _) gr7 (fun g e _ => e)
    have h10c : ∀ q, (Value.slice a10 ev.length c10).ownBlock = some q → col6 q = 0 := fun q e => by
     by_cases hq : q < wr.heap.size
     ·exact HR6.out.c0 q (Nat.lt_of_lt_of_le hq HBB.out.size) (r5 q e)
     ·exact absurd (r4.lt q e).2 hq
    refine ⟨s6, ev ++ ev6, col6, so6, F6, hm6, jb6, gs6, out6, ?_, HP2.out, ?_, ?_, ?_, ?_, ?_, ?_⟩
    ·rw [HTK.out]; exact r1.snoc HP1.out
    ·rw [tick_now HP1.out, r2]
    ·rw [List.length_append, HK1.out, HRT.out]; omega
    ·have h7 := HH6.out.keep hg7 h10c
     rw [HK1.out, HRT.out, show k * (n + 2) + n + 2 + (relsN (List.take k l) + x.1.length) = k * (n + 2) + relsN (List.take k l) + n + x.1.length + 2 by omega]
     exact h7
    ·refine ⟨(r6.fr.trans HF6.out (fun _ _ t => t) (fun q hq t => fun e => t (r6.c0 q hq e))).trans hg7 (fun _ _ t => t) (fun q hq t => ?_), fun q hq e => HR6.out.c0 q (by have := r6.fr.size; have := HBB.out.size; omega) (r6.c0 q hq e)⟩
     have := ownsRow_block r4 q t
     omega
    ·rw [List.length_append, List.flatMap_append]; exact own7
    ·intro q e
     rcases at7 with t | t
     ·rw [t] at e; exact h10c q e
     ·rw [t] at e
      cases e
      by_cases hz : col6 w6.heap.size = 0
      ·exact hz
      ·have := (HH6.out.c.lt _ hz).2; omega
   clear HP1 HP2 HP3 HP4 HH6 HR6 HQ HTK HRT HK1 HXK own7 gr7 at7
   go_wp2_with fail
   go_roundw
   case rel => exact ⟨k + 1, by omega, by simp, HN⟩
   case measure => simp [intOf]; omega
  ·have hkn : k = l.length := by omega
   subst hkn
   have hdl : decide ((l.length : Int) < (l.length : Int)) = false := decide_eq_false (by omega)
   obtain ⟨s, ev, col, so, F, hm, jbk, gs, out', q1, q2, q3, q4, q5, q6, q7, q8⟩ := HR.out
   obtain ⟨a10, c10, h10⟩ := ownsRow_form q7
   subst h10
   rw [List.take_length] at q1
   have HQ : Hid (Ticks tk n (St0 tk) l s ev ∧ wr.ownsRow w.heap.size 44 5 (.slice a10 ev.length c10) ev.length (ev.flatMap evc) ∧ Below w.heap.size w wr) := ⟨q1, own_base q7 (Nat.le_trans hwB hB1w), HB0.out.trans (((HB1.out).mono hwB).trans (q6.fr.below (fun q _ e => by
    by_cases h : B1 ≤ q
    ·omega
    ·exact absurd (HC1.out q (by omega)) e) (by omega)))⟩
   clear q1 q2 q3 q4 q5 q6 q7 q8 HR
   go_wp2_with fail
   go_ret2
   exact ⟨_, s, ev, rfl, HQ.out⟩
end
end
end Go.Proofs.YtnoahekcemfmcaaGreatDoor
