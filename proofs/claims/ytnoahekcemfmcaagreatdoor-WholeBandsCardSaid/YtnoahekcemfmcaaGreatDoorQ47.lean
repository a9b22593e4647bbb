/- A part of the walk: Lg Lh Li Lj. -/
import Derived.Test.YtnoahekcemfmcaaGreatDoorQ46
import Derived.Test.YtnoahekcemfmcaaGreatDoorQ43
namespace Go.Proofs.YtnoahekcemfmcaaGreatDoor
set_option linter.unusedVariables false
set_option linter.unusedSimpArgs false
section
open Go.RowKit
structure AdD (w : World) (ab b2 c2 : Nat) : Prop where
 l : AdL w ab b2 c2
 c1 : w.cell? ⟨ab, 1, none⟩ = some (.int .u32 1)
 fz : ∀ o, w.frozen? ⟨ab, o, none⟩ = false
 tk : TksIn w.heap.size w (some ⟨b2, 0, none⟩) 3 tkS
 cp : 3 ≤ c2
theorem AdD.below {w w' : World} {ab b2 c2 : Nat} (h : AdD w ab b2 c2) (hb : Below w.heap.size w w') : AdD w' ab b2 c2 :=
 ⟨⟨cell_bel hb h.l.c5, cell_bel hb h.l.c6, cell_bel hb h.l.c10, cell_bel hb h.l.c14⟩, cell_bel hb h.c1, fun o => ((Fr.of_below (S := fun _ => False) hb).frozen (p := ⟨ab, o, none⟩) (show ab < _ from block_lt h.c1) (by simp)).trans (h.fz o), fun h0 => by
  obtain ⟨b, off, e, hlt, hc⟩ := h.tk.keep hb h0
  exact ⟨b, off, e, Nat.lt_of_lt_of_le hlt hb.size, hc⟩, h.cp⟩
set_option maxHeartbeats 1000000 in
set_option maxRecDepth 100000 in
theorem look_first (w : World) (ab tb tc : Nat) (hA : AdB w ab) (ht : w.cell? ⟨ab, 0, none⟩ = some (.slice (some ⟨tb, 0, none⟩) textL.length tc)) (h1 : w.cell? ⟨ab, 1, none⟩ = some (.int .u32 0)) (h2 : w.cell? ⟨ab, 2, none⟩ = some (.int .i32 0)) (h4 : ∃ v : Int, w.cell? ⟨ab, 4, none⟩ = some (.int .i64 v))
  (hb : BytesIn w tb 0 textL) (hcap : textL.length ≤ tc) (n2 : tb ≠ ab) :
  Calls Tryz.prog 51 #[.pointer (some ⟨ab, 0, none⟩)] w fun e w' => e = .returned (.tuple #[]) ∧ (∃ b2 c2, AdD w' ab b2 c2) ∧ Fr (fun q => q = ab) w w' := by
 have hal : ab < w.heap.size := block_lt ht
 have hbA := bel_alloc (Below.refl w.heap.size w) (.cells #[.pointer (some ⟨ab, 0, none⟩)] 70)
 have hbox := cell_newb w #[.pointer (some ⟨ab, 0, none⟩)] 70 _ 0 _ rfl rfl
 have d1 := cell_bel hbA h1
 have d2 := cell_bel hbA h2
 have dt := cell_bel hbA ht
 have dA := hA.fr (S := fun _ => False) (Fr.of_below hbA) (by simp)
 have dby : BytesIn (w.alloc (.cells #[.pointer (some ⟨ab, 0, none⟩)] 70)) tb 0 textL := fun j hj => cell_bel hbA (hb j hj)
 have d4 : ∃ v : Int, (w.alloc (.cells #[.pointer (some ⟨ab, 0, none⟩)] 70)).cell? ⟨ab, 4, none⟩ = some (.int .i64 v) := by obtain ⟨v, hv⟩ := h4; exact ⟨v, cell_bel hbA hv⟩
 have hal2 : ab < (w.alloc (.cells #[.pointer (some ⟨ab, 0, none⟩)] 70)).heap.size := Nat.lt_of_lt_of_le hal hbA.size
 have hDO := do86 (b := ab) (off := 1) (w := w.alloc (.cells #[.pointer (some ⟨ab, 0, none⟩)] 70)) (R := fun w1 => (∃ b2 c2, AdL w1 ab b2 c2 ∧ TksIn w1.heap.size w1 (some ⟨b2, 0, none⟩) 3 tkS ∧ 3 ≤ c2 ∧ w.heap.size ≤ b2) ∧ Fr (fun q => q = ab) ((w.alloc (.cells #[.pointer (some ⟨ab, 0, none⟩)] 70)).setCell ⟨ab, 2, none⟩ (.int .i32 1)) w1 ∧ ∀ o, w1.frozen? ⟨ab, o, none⟩ = false)
  (.pointer (some ⟨w.heap.size, 0, none⟩)) d1 d2 (dA.fz 1) (dA.fz 2)
  ((lookc_is _ ab w.heap.size tb tc (by rw [World.cell?_setCell_other _ _ _ _ (addr_ne' (by omega))]; exact hbox) (dA.set 2 _) (by rw [get_ne (by omega)]; exact dt) (by obtain ⟨v, hv⟩ := d4; exact ⟨v, by rw [get_ne (by omega)]; exact hv⟩)
   (dby.keep (by rw [textL_len]; omega) (fr_set (Fr.refl _ _) 2 _) n2) hcap (by omega) n2 (dA.get 2 _ (by omega))).mono fun e w' ⟨he, ⟨b2, c2, g1, g2, g3, g4⟩, g5, gz, g6⟩ => ⟨he, ⟨⟨b2, c2, g1, g2, g3, by
    have : w.heap.size ≤ ((w.alloc (.cells #[.pointer (some ⟨ab, 0, none⟩)] 70)).setCell ⟨ab, 2, none⟩ (.int .i32 1)).heap.size := by simp [World.setCell]
    omega⟩, g5, gz⟩, g6⟩)
 have HDO := Lib.hid hDO
 have HB := Lib.hid hbA
 have HG := Lib.hid dA
 clear hDO hA ht h1 h2 h4 hb d1 d2 dt dA dby d4
 go_enter Tryz.func51, Tryz.ntmps51
 go_wp2_with (go_at_call 85; refine HDO.out.mono ?_; rintro e w3 ⟨rfl, w2, ⟨⟨b2, c2, g1, g2, g3, g4⟩, g5, gz⟩, gk, rfl⟩)
 go_end0
 have hb2s := g2 (by omega)
 have F0 : Fr (fun q => q = ab) w w2 := ((Fr.of_below (S := fun q => q = ab) HB.out).setCell (p := ⟨ab, 2, none⟩) rfl (.int .i32 1)).trans g5 (fun _ _ e => e) (fun _ _ e => e)
 have FE : Fr (fun q => q = ab) w2 ((w2.setCell ⟨ab, 1, none⟩ (.int .u32 1)).setCell ⟨ab, 2, none⟩ (.int .i32 0)).drew := (((Fr.refl (fun q => q = ab) w2).setCell (p := ⟨ab, 1, none⟩) rfl _).setCell (p := ⟨ab, 2, none⟩) rfl _).drew
 obtain ⟨u1, hu1⟩ := gk.1
 have hne : ∀ j, j ≠ 1 → j ≠ 2 → ((w2.setCell ⟨ab, 1, none⟩ (.int .u32 1)).setCell ⟨ab, 2, none⟩ (.int .i32 0)).drew.cell? ⟨ab, j, none⟩ = w2.cell? ⟨ab, j, none⟩ := fun j h1 h2 => by
  rw [World.cell?_drew, get_ne (by omega), get_ne (by omega)]
 refine ⟨rfl, ⟨b2, c2, ⟨⟨(hne 5 (by omega) (by omega)).trans g1.c5, (hne 6 (by omega) (by omega)).trans g1.c6, (hne 10 (by omega) (by omega)).trans g1.c10, (hne 14 (by omega) (by omega)).trans g1.c14⟩, ?_, ?_, ?_, g3⟩⟩, F0.trans FE (fun _ _ e => e) (fun _ _ e => e)⟩
 ·rw [World.cell?_drew, get_ne (by omega)]
  exact World.cell?_setCell_same _ _ _ hu1
 ·intro o; show ((w2.setCell _ _).setCell _ _).frozen? _ = _; rw [World.frozen?_setCell, World.frozen?_setCell]; exact gz o
 ·intro h0
  obtain ⟨bb, oo, e1, e2, e3⟩ := (g2.fr (Nat.le_refl _) FE (fun b _ ⟨oo, ho⟩ e => by cases ho; omega)) h0
  exact ⟨bb, oo, e1, Nat.lt_of_lt_of_le e2 FE.size, e3⟩
set_option maxHeartbeats 1000000 in
theorem look_again (w : World) (ab b2 c2 : Nat) (h : AdD w ab b2 c2) :
  Calls Tryz.prog 51 #[.pointer (some ⟨ab, 0, none⟩)] w fun e w' => e = .returned (.tuple #[]) ∧ AdD w' ab b2 c2 ∧ Below w.heap.size w w' := by
 have hbA := bel_alloc (Below.refl w.heap.size w) (.cells #[.pointer (some ⟨ab, 0, none⟩)] 70)
 have hDO := Lib.hid (do86_done (b := ab) (off := 1) (.pointer (some ⟨w.heap.size, 0, none⟩)) (h.below hbA).c1)
 have HA := Lib.hid (And.intro (h.below hbA) hbA)
 clear h hbA
 go_enter Tryz.func51, Tryz.ntmps51
 go_wp2_with (go_at_call 85; refine hDO.out.mono ?_; rintro e w3 ⟨rfl, rfl⟩)
 go_end0
 exact ⟨rfl, HA.out⟩
set_option maxHeartbeats 1000000 in
set_option maxRecDepth 100000 in
theorem gap_first (w : World) (ab tb tc : Nat) (hA : AdB w ab) (ht : w.cell? ⟨ab, 0, none⟩ = some (.slice (some ⟨tb, 0, none⟩) textL.length tc)) (h1 : w.cell? ⟨ab, 1, none⟩ = some (.int .u32 0)) (h2 : w.cell? ⟨ab, 2, none⟩ = some (.int .i32 0)) (h4 : ∃ v : Int, w.cell? ⟨ab, 4, none⟩ = some (.int .i64 v))
  (hb : BytesIn w tb 0 textL) (hcap : textL.length ≤ tc) (n2 : tb ≠ ab) :
  Calls Tryz.prog 25 #[.pointer (some ⟨ab, 0, none⟩)] w fun e w' => e = .returned (.tuple #[.int .i64 6, .int .i64 0]) ∧ (∃ b2 c2, AdD w' ab b2 c2) ∧ Fr (fun q => q = ab) w w' := by
 have HL := Lib.hid (look_first w ab tb tc hA ht h1 h2 h4 hb hcap n2)
 have hm : Tryz.prog.follows .mixedOrders = true := by kernel_rfl
 clear hA ht h1 h2 h4 hb
 go_enter Tryz.func25, Tryz.ntmps25
 go_wp2_with (go_at_call 51; refine HL.out.mono ?_; rintro e w2 ⟨rfl, ⟨b2, c2, hd⟩, f2⟩; have q10 := fun d os => cell_regrown hd.l.c10 d os; have q14 := fun d os => cell_regrown hd.l.c14 d os)
 refine wp_region_quiet_below hm (by kernel_rfl) ?_
 repeat (quiet_step (fail))
 refine wpQuiet_nil ?_
 intro _ hw'
 obtain ⟨⟨dq, osq⟩, hw''⟩ := hw'
 subst hw''
 have hbq := below_regrown w2 dq osq
 go_wp2_with fail
 go_ret2
 exact ⟨rfl, ⟨b2, c2, hd.below hbq⟩, f2.trans (Fr.of_below (S := fun q => q = ab) hbq) (fun _ _ e => e) (fun _ _ e => e)⟩
end
section
open Go.RowKit
def lS : List (List (Int × Int) × Bool) := [([(0, 3)], false), ([], false), ([], false), ([], false), ([], false)]
def oS (k j i : Nat) : Int := if k = 0 ∧ j = 0 then 0 else if i = 0 then 20 else 0
theorem lS_len : lS.length = 5 := rfl
theorem relStated : RelOk tkS 3 lS oS where
 z := fun i hi => rfl
 s := fun k h j hj => by
  have hk : k = 0 ∨ k = 1 ∨ k = 2 ∨ k = 3 ∨ k = 4 := by rw [lS_len] at h; omega
  rcases hk with rfl | rfl | rfl | rfl | rfl
  ·have hj1 : j < 1 := hj
   obtain rfl : j = 0 := by omega
   exact ⟨by decide +revert, by decide +revert, by decide +revert, by decide +revert, by decide +revert, three (by decide +revert) (by decide +revert) (by decide +revert)⟩
  all_goals exact absurd hj (Nat.not_lt_zero j)
 n := fun k h i hi => by
  have hk : k = 0 ∨ k = 1 ∨ k = 2 ∨ k = 3 ∨ k = 4 := by rw [lS_len] at h; omega
  have hi3 : i = 0 ∨ i = 1 ∨ i = 2 := by omega
  rcases hk with rfl | rfl | rfl | rfl | rfl <;> rcases hi3 with rfl | rfl | rfl <;> decide +revert
theorem gapS : (6 : Int) ≤ gapL 1 (faultsL (hitOf lS) lS.length) := by decide +kernel
theorem InsIn.more {B B2 : Nat} {w : World} {a : Option Addr} {l : List (List (Int × Int) × Bool)} (h : InsIn B w a l) (hb : B ≤ B2) : InsIn B2 w a l := fun h0 => by
 obtain ⟨bb, oo, e1, e2, e3⟩ := h h0
 exact ⟨bb, oo, e1, by omega, fun j hj => by obtain ⟨aj, cj, c1, c2, c3⟩ := e3 j hj; exact ⟨aj, cj, c1, c2, c3.more hb⟩⟩
set_option maxHeartbeats 2000000 in
set_option maxRecDepth 100000 in
theorem arun_is (w : World) (ab b2 c2 B : Nat) (ai : Option Addr) (ci : Nat) (h : AdD w ab b2 c2) (hi : InsIn B w ai lS) (hB : B ≤ w.heap.size) :
  Calls Tryz.prog 26 #[.pointer (some ⟨ab, 0, none⟩), .int .i64 1, .slice ai lS.length ci] w fun e w' => ∃ v s' ev, e = .returned (.tuple #[v, .int .i64 0]) ∧ Ticks tkS 3 (St0 tkS) lS s' ev ∧ w'.ownsRow w.heap.size 44 5 v ev.length (ev.flatMap evc) ∧ Below w.heap.size w w' := by
 have hm : Tryz.prog.follows .mixedOrders = true := by kernel_rfl
 have HL := Lib.hid (look_again w ab b2 c2 h)
 have HI := Lib.hid hi
 clear h hi
 go_enter Tryz.func26, Tryz.ntmps26
 go_wp2_with (go_at_call 51; refine HL.out.mono ?_; rintro e w2 ⟨rfl, hd, hb2⟩; have d14 := hd.l.c14; have HD := Lib.hid hd; have HB2 := Lib.hid hb2; clear hd hb2 HL)
 have q5 := fun d os => cell_regrown HD.out.l.c5 d os
 have q6 := fun d os => cell_regrown HD.out.l.c6 d os
 have q10 := fun d os => cell_regrown HD.out.l.c10 d os
 have HLG : Hid (∀ d os, Calls Tryz.prog 19 #[.agg #[.int .i64 1, .slice (some ⟨b2, 0, none⟩) 3 c2], .int .i64 6, .slice ai lS.length ci] (Sort.grow (redrawn w2 d) os) fun e w'' => e = .returned (.bool true) ∧ ∃ p : Regrown, w'' = Sort.grow (redrawn w2 p.d) p.os) := fun d os => by
  have hbq := below_regrown w2 d os
  have hi2 := HI.out.keep hB (Fr.of_below (S := fun _ => False) (HB2.out.trans (hbq.mono HB2.out.size))) (fun _ _ t => t)
  have hdq := HD.out.below hbq
  exact Calls.regrown_of (slegal_ok _ 1 _ 3 c2 tkS 6 ai ci lS oS _ stated_right hdq.tk (hi2.more (Nat.le_trans hB (HB2.out.trans (hbq.mono HB2.out.size)).size)) (Nat.le_refl _) hdq.cp (by decide) (by decide) (by decide) (by decide) relStated gapS)
 go_wp2_with fail
 refine wp_region_quiet_below hm (by kernel_rfl) ?_
 repeat (quiet_step (fail))
 quiet_step (exact HLG.out _ _)
 repeat (quiet_step (fail))
 refine wpQuiet_nil ?_
 intro _ hw'
 obtain ⟨⟨dq, osq⟩, hw''⟩ := hw'
 subst hw''
 have hbq := below_regrown w2 dq osq
 have HDQ := Lib.hid (HD.out.below hbq)
 have HB3 := Lib.hid (HB2.out.trans (hbq.mono HB2.out.size))
 clear q5 q6 q10 HLG d14 hbq
 generalize Sort.grow (redrawn w2 dq) osq = w3 at *
 have r5 := HDQ.out.l.c5
 have r6 := HDQ.out.l.c6
 have HR := Lib.hid (srun_even _ 1 _ 3 c2 tkS ai ci lS w3 stated_right HDQ.out.tk ((HI.out.keep hB (Fr.of_below (S := fun _ => False) HB3.out) (fun _ _ t => t)).more (Nat.le_trans hB HB3.out.size)) (Nat.le_refl _) HDQ.out.cp (by decide) (by decide) 1 (.inl rfl))
 go_wp2_with (go_at_call 11; refine HR.out.mono ?_; rintro e w4 ⟨v, s', ev, rfl, ht, ho, hb4⟩)
 go_ret2
 exact ⟨v, s', ev, rfl, ht, own_base ho HB3.out.size, HB3.out.trans (hb4.mono HB3.out.size)⟩
end
section
open Go.RowKit
theorem rtask_stated : ∀ k, k < 3 → ∀ w, Calls Tryz.prog 84 #[tkv (tkS k)] w fun e w' => e = .returned (.string (TSs k)) ∧ Below w.heap.size w w' :=
 three (fun w => rtask_any ⟨#[97]⟩ 20 18 3 0 2 1 1 1 1 0 w (by decide) (by decide) (by decide) (by decide) (by decide) (by decide) (by decide) (by decide) (by decide) (by decide) (by decide) (by decide))
  (fun w => rtask_any ⟨#[98]⟩ 40 35 4 3 0 0 2 3 3 1 w (by decide) (by decide) (by decide) (by decide) (by decide) (by decide) (by decide) (by decide) (by decide) (by decide) (by decide) (by decide))
  (fun w => rtask_any ⟨#[99]⟩ 80 70 6 2 0 0 1 2 2 2 w (by decide) (by decide) (by decide) (by decide) (by decide) (by decide) (by decide) (by decide) (by decide) (by decide) (by decide) (by decide))
theorem ts_size : ∀ i, i < 3 → (TSs i).size ≤ 100 := three (by decide +kernel) (by decide +kernel) (by decide +kernel)
set_option maxHeartbeats 2000000 in
set_option maxRecDepth 100000 in
theorem stated_is (w : World) : Calls Tryz.prog 24 #[] w fun e w' => ∃ sb, e = .returned (.agg #[.int .i64 1, .slice (some ⟨sb, 0, none⟩) 3 3]) ∧ w.heap.size ≤ sb ∧ TksIn w'.heap.size w' (some ⟨sb, 0, none⟩) 3 tkS ∧ Below w.heap.size w w' := by
 go_enter Tryz.func24, Tryz.ntmps24
 go_wp2_with fail
 obtain ⟨cs, hcs⟩ : ∃ cs : Array Value, cs = (tkc (tkS 0) ++ (tkc (tkS 1) ++ tkc (tkS 2))).toArray := ⟨_, rfl⟩
 have hb := bel_alloc (bel_alloc (Below.refl w.heap.size w) (.cells #[.int .i64 1, .slice (some ⟨w.heap.size + 1, 0, none⟩) 3 3] 24)) (.cells (tkc (tkS 0) ++ (tkc (tkS 1) ++ tkc (tkS 2))).toArray 41)
 have g1 : ((w.alloc (.cells #[.int .i64 1, .slice (some ⟨w.heap.size + 1, 0, none⟩) 3 3] 24)).alloc (.cells (tkc (tkS 0) ++ (tkc (tkS 1) ++ tkc (tkS 2))).toArray 41)).rangeAt w.heap.size 0 [.int .i64 1, .slice (some ⟨w.heap.size + 1, 0, none⟩) 3 3] :=
  rg_below (bel_alloc (Below.refl _ _) _) (by simp) (rg_new w _ _ _ rfl)
 have g2 : ((w.alloc (.cells #[.int .i64 1, .slice (some ⟨w.heap.size + 1, 0, none⟩) 3 3] 24)).alloc (.cells (tkc (tkS 0) ++ (tkc (tkS 1) ++ tkc (tkS 2))).toArray 41)).rangeAt (w.heap.size + 1) 0 (tkc (tkS 0) ++ (tkc (tkS 1) ++ tkc (tkS 2))) := rg_new _ _ _ _ (by simp)
 refine bodyPost_ret (res_cell rfl _ _ w.heap.size _ _ rfl g1 Tryz.underlying24 rfl Tryz.size24) rfl ⟨w.heap.size + 1, rfl, by omega, fun _ => ⟨w.heap.size + 1, 0, rfl, by simp, ?_⟩, hb⟩
 exact three (rg_left g2) (rg_left (rg_right g2)) (rg_right (rg_right g2))
end
section
open Go.RowKit
theorem evc_len (e : Ev) : (evc e).length = 5 := rfl
theorem ins_stated (w : World) : InsIn (w.heap.size + 2) ((w.alloc (.cells #[.int .i64 0, .int .i64 3] 79)).alloc (.cells #[.slice (some ⟨w.heap.size, 0, none⟩) 1 1, .bool false, .slice none 0 0, .bool false, .slice none 0 0, .bool false, .slice none 0 0, .bool false, .slice none 0 0, .bool false] 55)) (some ⟨w.heap.size + 1, 0, none⟩) lS := fun _ => by
 refine ⟨w.heap.size + 1, 0, rfl, by omega, fun j hj => ?_⟩
 have hk : j = 0 ∨ j = 1 ∨ j = 2 ∨ j = 3 ∨ j = 4 := by rw [lS_len] at hj; omega
 have e : w.heap.size + 1 = (w.alloc (.cells #[.int .i64 0, .int .i64 3] 79)).heap.size := by simp
 rcases hk with rfl | rfl | rfl | rfl | rfl
 ·refine ⟨some ⟨w.heap.size, 0, none⟩, 1, cell_newb _ _ _ _ 0 _ e rfl, cell_newb _ _ _ _ 1 _ e rfl, fun _ => ⟨w.heap.size, 0, rfl, by omega, fun i hi => ?_⟩⟩
  have hi1 : i < 1 := hi
  obtain rfl : i = 0 := by omega
  exact ⟨cell_bel (bel_alloc (Below.refl _ _) _) (cell_newb w _ _ _ 0 _ rfl rfl), cell_bel (bel_alloc (Below.refl _ _) _) (cell_newb w _ _ _ 1 _ rfl rfl)⟩
 ·exact ⟨none, 0, cell_newb _ _ _ _ 2 _ e rfl, cell_newb _ _ _ _ 3 _ e rfl, fun h => absurd h (Nat.lt_irrefl 0)⟩
 ·exact ⟨none, 0, cell_newb _ _ _ _ 4 _ e rfl, cell_newb _ _ _ _ 5 _ e rfl, fun h => absurd h (Nat.lt_irrefl 0)⟩
 ·exact ⟨none, 0, cell_newb _ _ _ _ 6 _ e rfl, cell_newb _ _ _ _ 7 _ e rfl, fun h => absurd h (Nat.lt_irrefl 0)⟩
 ·exact ⟨none, 0, cell_newb _ _ _ _ 8 _ e rfl, cell_newb _ _ _ _ 9 _ e rfl, fun h => absurd h (Nat.lt_irrefl 0)⟩
set_option maxHeartbeats 4000000 in
set_option maxRecDepth 100000 in
theorem awake_is (w : World) : Calls Tryz.prog 7 #[] w fun e w' => e = .returned (.bool true) ∧ Below w.heap.size w w' := by
 have hl108 := textL_len
 have HS := Lib.hid (stated_is w)
 have HT : Hid (∀ w1 sb, TksIn w1.heap.size w1 (some ⟨sb, 0, none⟩) 3 tkS → Calls Tryz.prog 23 #[.agg #[.int .i64 1, .slice (some ⟨sb, 0, none⟩) 3 3]] w1 fun e w' => (∃ b cp, e = .returned (.slice (some ⟨b, 0, none⟩) textL.length cp) ∧ w1.heap.size ≤ b ∧ b < w'.heap.size ∧ BytesIn w' b 0 textL) ∧ Below w1.heap.size w1 w') := fun w1 sb hx =>
  text_any w1.heap.size 1 _ 3 3 tkS TSs w1 hx (Nat.le_refl _) (by omega) (by omega) rtask_stated ts_size textL text_bd stated_text
 have HA : Hid (∀ w2 b cp, BytesIn w2 b 0 textL → Calls Tryz.prog 22 #[.slice (some ⟨b, 0, none⟩) textL.length cp] w2 _) := fun w2 b cp hb => anew_any b textL.length cp textL w2 rfl (by omega) (by omega) hb
 have HL := Lib.hid hl108
 clear hl108
 go_enter Tryz.func7, Tryz.ntmps7
 go_wp2_with (first
  |(go_at_call 24; refine HS.out.mono ?_; rintro e w1 ⟨sb, rfl, hsb, hx1, hb1⟩; have HX1 := Lib.hid hx1; have HB1 := Lib.hid hb1; clear hx1 hb1 HS)
  |(go_at_call 23; refine (HT.out _ _ HX1.out).mono ?_; rintro e w2 ⟨⟨b, cp, rfl, hbb, hbl, hby⟩, hb2⟩; have HBY := Lib.hid hby; have HB2 := Lib.hid (HB1.out.trans (hb2.mono HB1.out.size)); clear hby hb2 HT)
  |(go_at_call 22; refine (HA.out _ _ _ HBY.out).mono ?_; rintro e w4 ⟨tb, tc, ab, w3, rfl, hw4, hab, htb1, htb2, htc, hby3, hb3⟩
    have hb4 : Below w.heap.size w w3 := HB2.out.trans (hb3.mono HB2.out.size)
    have hbA := bel_alloc (Below.refl w3.heap.size w3) (.cells (adm0 (.slice (some ⟨tb, 0, none⟩) textL.length tc)) 132)
    have HB4 : Hid (Below w.heap.size w w4) := by rw [hw4]; exact hb4.trans (hbA.mono hb4.size)
    have HAB : Hid (AdB w4 ab ∧ w4.cell? ⟨ab, 0, none⟩ = some (.slice (some ⟨tb, 0, none⟩) textL.length tc) ∧ w4.cell? ⟨ab, 1, none⟩ = some (.int .u32 0) ∧ w4.cell? ⟨ab, 2, none⟩ = some (.int .i32 0) ∧ (∃ v : Int, w4.cell? ⟨ab, 4, none⟩ = some (.int .i64 v)) ∧ BytesIn w4 tb 0 textL ∧ tb ≠ ab ∧ w.heap.size ≤ ab) := by
     subst hw4
     subst hab
     refine ⟨⟨fun j hj => ⟨_, cell_newb _ _ _ _ j _ rfl (List.getElem?_eq_getElem (by simpa [adm0] using hj))⟩, fun o => by simp⟩, cell_newb _ _ _ _ 0 _ rfl rfl, cell_newb _ _ _ _ 1 _ rfl rfl, cell_newb _ _ _ _ 2 _ rfl rfl, ⟨0, cell_newb _ _ _ _ 4 _ rfl rfl⟩, fun j hj => cell_bel hbA (hby3 j hj), by omega, hb4.size⟩
    have HG := Lib.hid (gap_first w4 ab tb tc HAB.out.1 HAB.out.2.1 HAB.out.2.2.1 HAB.out.2.2.2.1 HAB.out.2.2.2.2.1 HAB.out.2.2.2.2.2.1 htc HAB.out.2.2.2.2.2.2.1)
    clear hw4 hab hbA hb4 hby3 hb3)
  |(go_at_call 25; refine HG.out.mono ?_; rintro e w5 ⟨rfl, ⟨b2, c2, hd⟩, f5⟩
    have HB5 := Lib.hid (HB4.out.trans (f5.below (fun q _ e => by have := HAB.out.2.2.2.2.2.2.2; omega) HB4.out.size))
    have hbI := bel_alloc (bel_alloc (Below.refl w5.heap.size w5) (.cells #[.int .i64 0, .int .i64 3] 79)) (.cells #[.slice (some ⟨w5.heap.size, 0, none⟩) 1 1, .bool false, .slice none 0 0, .bool false, .slice none 0 0, .bool false, .slice none 0 0, .bool false, .slice none 0 0, .bool false] 55)
    have HR := Lib.hid (arun_is _ ab b2 c2 (w5.heap.size + 2) (some ⟨w5.heap.size + 1, 0, none⟩) 5 (hd.below hbI) (ins_stated w5) (by simp))
    have HB6 := Lib.hid (HB5.out.trans (hbI.mono HB5.out.size))
    rw [lS_len] at HR
    clear hd f5 hbI)
  |(go_at_call 26; refine HR.out.mono ?_; rintro e w7 ⟨v, s', ev, rfl, ht, ho, hb7⟩
    have hw := awake_ev (nm := ⟨#[97]⟩) rfl ht
    have hlen : ev.length = 4 := by have := congrArg List.length hw; simpa using this
    obtain ⟨gv, cv, rfl, _, _, _, hv4, _⟩ := ownsRow_cells ho (by omega)
    have hx : ∃ x, ev[3]? = some x ∧ x.what = 8 := by
     have h3 : 3 < ev.length := by omega
     refine ⟨ev[3], List.getElem?_eq_getElem h3, ?_⟩
     have := congrArg (fun l => l[3]?) hw
     simp only [List.getElem?_map, List.getElem?_eq_getElem h3] at this
     simpa using this
    obtain ⟨x, hx1, hx2⟩ := hx
    have q16 := hv4 16 (.int .i64 8) (by
     have h3 : 3 < ev.length := by omega
     have := flatMap_at evc 5 evc_len ev 3 1 h3 (by omega)
     rw [this]
     rw [List.getElem?_eq_getElem h3] at hx1
     cases hx1
     show some (Value.int .i64 (ev[3].what)) = _
     rw [hx2])
    rw [hlen]
    have HB7 := Lib.hid (HB6.out.trans (hb7.mono HB6.out.size))
    clear hv4 ho ht hw hx1 hx2 hlen hb7))
 go_ret
 exact ⟨rfl, HB7.out⟩
end
end Go.Proofs.YtnoahekcemfmcaaGreatDoor
