/- A part of the walk: Lb Lc Le. -/
import Derived.Test.YtnoahekcemfmcaaGreatDoorQ44
import Derived.Test.YtnoahekcemfmcaaGreatDoorQ36
import Derived.Lib.QuietBelow
import Derived.Test.YtnoahekcemfmcaaGreatDoorQ43
import Derived.Test.YtnoahekcemfmcaaGreatDoorQ16
import Derived.Defers
import Derived.Laws.Pointers
import Derived.Laws.LoneSync
import Derived.RegionTactic
import Derived.RegionCalls
namespace Go.Proofs.YtnoahekcemfmcaaGreatDoor
set_option linter.unusedVariables false
set_option linter.unusedSimpArgs false
section
open Go.RowKit
structure RelOk (tk : Nat → Tk) (n : Nat) (l : List (List (Int × Int) × Bool)) (o : Nat → Nat → Nat → Int) : Prop where
 z : ∀ i, i < n → o 0 0 i = 0
 s : ∀ k (h : k < l.length) j (hj : j < l[k].1.length), 0 ≤ l[k].1[j].1 ∧ l[k].1[j].1 < n ∧ o k j l[k].1[j].1.toNat ≤ (k : Int) ∧ 1 ≤ l[k].1[j].2 ∧ l[k].1[j].2 ≤ (tk l[k].1[j].1.toNat).C ∧ ∀ i, i < n → o k (j + 1) i = upd (o k j) l[k].1[j].1.toNat ((k : Int) + (tk l[k].1[j].1.toNat).T) i
 n : ∀ k (h : k < l.length) i, i < n → o (k + 1) 0 i = o k l[k].1.length i
structure OpW (B n : Nat) (w : World) (b : Nat) (f : Nat → Int) : Prop where
 c : ∀ i, i < n → w.cell? ⟨b, i, none⟩ = some (.int .i64 (f i))
 z : ∀ o, w.frozen? ⟨b, o, none⟩ = false
 b1 : B ≤ b
 b2 : b < w.heap.size
theorem OpW.below {B n : Nat} {w w' : World} {b : Nat} {f : Nat → Int} (h : OpW B n w b f) (hb : Below w.heap.size w w') : OpW B n w' b f :=
 ⟨fun i hi => cell_bel hb (h.c i hi), fun o => ((Fr.of_below (S := fun _ => False) hb).frozen (p := ⟨b, o, none⟩) h.b2 (by simp)).trans (h.z o), h.b1, Nat.lt_of_lt_of_le h.b2 hb.size⟩
theorem OpW.set {B n : Nat} {w : World} {b : Nat} {f : Nat → Int} (h : OpW B n w b f) (j : Nat) (v : Int) (hj : j < n) : OpW B n (w.setCell ⟨b, j, none⟩ (.int .i64 v)) b (upd f j v) :=
 ⟨fun i hi => by
  by_cases e : i = j
  ·subst e; rw [World.cell?_setCell_same _ _ _ (h.c i hi), upd_self]
  ·rw [World.cell?_setCell_other _ _ _ _ (addr_ne (Ne.symm e)), upd_ne _ _ e]; exact h.c i hi, fun o => by rw [World.frozen?_setCell]; exact h.z o, h.b1, by simpa [World.setCell] using h.b2⟩
theorem OpW.congr {B n : Nat} {w : World} {b : Nat} {f g : Nat → Int} (h : OpW B n w b f) (e : ∀ i, i < n → g i = f i) : OpW B n w b g := ⟨fun i hi => by rw [e i hi]; exact h.c i hi, h.z, h.b1, h.b2⟩
set_option maxHeartbeats 4000000 in
set_option maxRecDepth 100000 in
theorem releases_ok (B : Nat) (bu : Int) (a : Option Addr) (n c : Nat) (tk : Nat → Tk) (ai : Option Addr) (ci : Nat) (l : List (List (Int × Int) × Bool)) (o : Nat → Nat → Nat → Int) (w : World) (hS : SetOk bu n tk) (hx : TksIn B w a n tk) (hi : InsIn B w ai l) (hB : B ≤ w.heap.size) (hnc : n ≤ c)
  (hl : l.length ≤ 100000) (hr : ∀ x ∈ l, x.1.length ≤ 100000) (hR : RelOk tk n l o) :
  Calls Tryz.prog 43 #[.agg #[.int .i64 bu, .slice a n c], .slice ai l.length ci] w fun e w' => e = .returned (.bool true) ∧ Below w.heap.size w w' := by
 have hm : Tryz.prog.follows .mixedOrders = true := by kernel_rfl
 have hb0 := bel_alloc (Below.refl w.heap.size w) (.cells #[.int .i64 bu, .slice a n c] 24)
 have hbox1 := cell_newb w #[.int .i64 bu, .slice a n c] 24 _ 1 _ rfl rfl
 have hsz := one_lt w (.cells #[.int .i64 bu, .slice a n c] 24)
 have HX := Lib.hid hx
 have HI := Lib.hid hi
 have HRR := Lib.hid hR
 have HSS := Lib.hid hS
 have HRL := Lib.hid hr
 have HB0 := Lib.hid hb0
 have hn16 := hS.n2
 have hn0 := hS.n1
 have hnI : (n : Int) ≤ 16 := by omega
 have hlI : (l.length : Int) ≤ 100000 := by omega
 obtain ⟨i3, ki3, kz31, kz32, kz33⟩ := info_parts Tryz.info3
 clear hx hi hR hS hr hb0
 go_enter Tryz.func43, Tryz.ntmps43
 go_wp2_with (first
  |(at_make; refine wpList_make_full _ rfl _ _ 28 rfl w.heap.size 3 i3 (.int .i64 0) 1 Tryz.underlying28 ki3 kz31 kz32 .i64 .i64 _ _ n rfl rfl rfl rfl (by rw [kz33]; omega) (by unfold maxLen; omega) (by omega) ?_
    intro w3 hown3 hgr3
    have hq3 : Below (w.alloc (.cells #[.int .i64 bu, .slice a n c] 24)).heap.size (w.alloc (.cells #[.int .i64 bu, .slice a n c] 24)) w3 := Below.grown (Below.refl _ _) hgr3 (Nat.le_refl _) (fun k e => by cases e)
    have HQ3 := Lib.hid hq3
    have HO3 := Lib.hid hown3
    have x31 := Lib.hid (cell_bel hq3 hbox1)
    clear hq3 hown3 hgr3 hbox1))
 obtain ⟨w1, hw1⟩ : ∃ w1, w1 = w.alloc (.cells #[.int .i64 bu, .slice a n c] 24) := ⟨_, rfl⟩
 obtain ⟨g, hg⟩ : ∃ g, g = (w.alloc (.cells #[.int .i64 bu, .slice a n c] 24)).heap.size := ⟨_, rfl⟩
 have hgw : w.heap.size < g := by rw [hg]; exact hsz
 have hg3 : g < w3.heap.size := by
  have := ownsRow_lt HO3.out g (by rw [hg]; simp [Value.ownBlock])
  exact this
 have HW3 := Lib.hid (HB0.out.trans (HQ3.out.mono HB0.out.size))
 have hrz : (∀ j, j < n → w3.cell? ⟨g, j, none⟩ = some (.int .i64 0)) ∧ ∀ o, w3.frozen? ⟨g, o, none⟩ = false := by
  have := HO3.out
  rw [← hg] at this
  exact row_zero this
 have HOP : Hid (OpW w.heap.size n w3 g (o 0 0)) := ⟨fun i hi => by rw [HRR.out.z i hi]; exact hrz.1 i hi, hrz.2, by omega, hg3⟩
 have hgs : (w.alloc (.cells #[.int .i64 bu, .slice a n c] 24)).heap.size = w.heap.size + 1 := by simp
 rw [hgs] at hg
 have hgE : w.heap.size + 1 = g := hg.symm
 clear HO3 HQ3 hrz hw1 hgs hg
 try rw [hgE]
 go_loopw [16, 6, 7] (fun ix s6 s7 wx => ∃ k : Nat, k ≤ l.length ∧ ix = .int .i64 k ∧ Hid (OpW w.heap.size n wx g (o k 0) ∧ wx.cell? ⟨w.heap.size, 1, none⟩ = some (.slice a n c) ∧ Below w.heap.size w wx)) (fun ix _ _ _ => l.length - (intOf ix).toNat)
 case atStart => exact ⟨0, Nat.zero_le _, rfl, HOP.out, x31.out, HW3.out⟩
 case round =>
  obtain ⟨k, hk, rfl, HK⟩ := hrel
  by_cases hlt : k < l.length
  ·have hkI : (k : Int) < (l.length : Int) := by omega
   have hk0 : (0 : Int) ≤ (k : Int) := by omega
   have hdl : decide ((k : Int) < (l.length : Int)) = true := decide_eq_true hkI
   obtain ⟨b, off, rfl, hbB, hcs⟩ := (HI.out.keep hB (Fr.of_below (S := fun _ => False) HK.out.2.2) (fun _ _ t => t)) (by omega)
   obtain ⟨aj, cj, c0, c1, c2⟩ := hcs k hlt
   have HC2 := Lib.hid c2
   have HSK := Lib.hid (HRR.out.s k hlt)
   have HNK := Lib.hid (HRR.out.n k hlt)
   have hml : l[k].1.length ≤ 100000 := HRL.out _ (List.getElem_mem hlt)
   generalize hrs : l[k].1 = rs at *
   generalize l[k].2 = hit at *
   clear hcs c2 hrs
   have hbb := bel_alloc (Below.refl wr.heap.size wr) (.cells #[.slice aj rs.length cj, .bool hit] 55)
   have HBB := Lib.hid hbb
   have HK1 : Hid (OpW w.heap.size n (wr.alloc (.cells #[.slice aj rs.length cj, .bool hit] 55)) g (o k 0) ∧ (wr.alloc (.cells #[.slice aj rs.length cj, .bool hit] 55)).cell? ⟨w.heap.size, 1, none⟩ = some (.slice a n c) ∧ Below w.heap.size w (wr.alloc (.cells #[.slice aj rs.length cj, .bool hit] 55))) :=
    ⟨HK.out.1.below hbb, cell_bel hbb HK.out.2.1, HK.out.2.2.trans (hbb.mono HK.out.2.2.size)⟩
   have HC3 := Lib.hid (HC2.out.keep (Nat.le_trans hB HK.out.2.2.size) (Fr.of_below (S := fun _ => False) HBB.out) (fun _ _ t => t))
   clear hbb
   go_wp2_with fail
   generalize hw4 : wr.alloc (.cells #[.slice aj rs.length cj, .bool hit] 55) = w4 at HK1 HC3 HBB ⊢
   clear hw4
   go_loopw [24, 9] (fun jx s9 wx => ∃ j : Nat, j ≤ rs.length ∧ jx = .int .i64 j ∧ Hid (OpW w.heap.size n wx g (o k j) ∧ wx.cell? ⟨w.heap.size, 1, none⟩ = some (.slice a n c) ∧ Below w.heap.size w wx ∧ RelsIn B wx aj rs)) (fun jx _ _ => rs.length - (intOf jx).toNat)
   case atStart => exact ⟨0, Nat.zero_le _, rfl, HK1.out.1, HK1.out.2.1, HK1.out.2.2, HC3.out⟩
   case round =>
    obtain ⟨j, hj, rfl, HJ⟩ := hrel
    by_cases hjl : j < rs.length
    ·have hjI : (j : Int) < (rs.length : Int) := by omega
     have hj0 : (0 : Int) ≤ (j : Int) := by omega
     have hdj : decide ((j : Int) < (rs.length : Int)) = true := decide_eq_true hjI
     obtain ⟨rb, roff, rfl, hrB, hrc⟩ := HJ.out.2.2.2 (by omega)
     obtain ⟨r0, r1⟩ := hrc j hjl
     obtain ⟨s1, s2, s3, s4, s5, s6⟩ := HSK.out j hjl
     generalize rs[j].1 = ri at *
     generalize rs[j].2 = rd at *
     obtain ⟨i, rfl⟩ : ∃ i : Nat, ri = (i : Int) := ⟨ri.toNat, by omega⟩
     simp only [Int.toNat_natCast] at s3 s5 s6
     have hin : i < n := by omega
     have hinI : (i : Int) < (n : Int) := by omega
     have hi0 : (0 : Int) ≤ (i : Int) := by omega
     obtain ⟨tb, toff, rfl, htB, htc⟩ := (HX.out.keep ((HJ.out.2.2.1).mono hB)) hn0
     have hT := htc i hin 1 _ rfl
     have hC := htc i hin 3 _ rfl
     have hok := HSS.out.ok i hin
     have hT1 := hok.tm
     have hT0 : 0 ≤ (tk i).T := by have := hok.c1; have := hok.cd; have := hok.dt; omega
     have hov := HJ.out.1.c i hin
     obtain ⟨v, hv⟩ : ∃ v, o k j i = v := ⟨_, rfl⟩
     rw [hv] at s3 hov
     have hbr := bel_alloc (Below.refl wr.heap.size wr) (.cells #[.int .i64 (i : Nat), .int .i64 rd] 79)
     have HJ5 : Hid (OpW w.heap.size n (wr.alloc (.cells #[.int .i64 (i : Nat), .int .i64 rd] 79)) g (o k j) ∧ (wr.alloc (.cells #[.int .i64 (i : Nat), .int .i64 rd] 79)).cell? ⟨w.heap.size, 1, none⟩ = some (.slice (some ⟨tb, toff, none⟩) n c) ∧ Below w.heap.size w (wr.alloc (.cells #[.int .i64 (i : Nat), .int .i64 rd] 79)) ∧ RelsIn B (wr.alloc (.cells #[.int .i64 (i : Nat), .int .i64 rd] 79)) (some ⟨rb, roff, none⟩) rs) :=
      ⟨HJ.out.1.below hbr, cell_bel hbr HJ.out.2.1, HJ.out.2.2.1.trans (hbr.mono HJ.out.2.2.1.size), HJ.out.2.2.2.keep (Nat.le_trans hB HJ.out.2.2.1.size) (Fr.of_below (S := fun _ => False) hbr) (fun _ _ t => t)⟩
     have q0 := fun d os => cell_regrown (cell_newb wr #[.int .i64 (i : Nat), .int .i64 rd] 79 wr.heap.size 0 _ rfl rfl) d os
     have q1 := fun d os => cell_regrown (cell_newb wr #[.int .i64 (i : Nat), .int .i64 rd] 79 wr.heap.size 1 _ rfl rfl) d os
     have q2 := fun d os => cell_regrown HJ5.out.2.1 d os
     have q3 := fun d os => cell_regrown (cell_bel hbr hov) d os
     have q4 := fun d os => cell_regrown (cell_bel hbr hC) d os
     have p0 := cell_newb wr #[.int .i64 (i : Nat), .int .i64 rd] 79 wr.heap.size 0 _ rfl rfl
     have HP := Lib.hid (And.intro hT hbr)
     have e1 : decide ((i : Int) < 0) = false := decide_eq_false (by omega)
     have e2 : decide ((n : Int) ≤ (i : Int)) = false := decide_eq_false (by omega)
     have e2' : decide (n ≤ i) = false := decide_eq_false (by omega)
     have e3 : decide ((k : Int) < v) = false := decide_eq_false (by omega)
     have e4 : decide (rd < 1) = false := decide_eq_false (by omega)
     have e5 : decide ((tk i).C < rd) = false := decide_eq_false (by omega)
     have HS6 := Lib.hid s6
     clear hrc htc hT hC hov hbr s1 s2 s6 hv
     go_wp2_with fail
     refine wp_region_quiet_below hm (by kernel_rfl) ?_
     repeat (quiet_step (fail))
     refine wpQuiet_nil ?_
     intro _ hw'
     obtain ⟨⟨dq, osq⟩, hw''⟩ := hw'
     subst hw''
     have hbq := below_regrown (wr.alloc (.cells #[.int .i64 (i : Nat), .int .i64 rd] 79)) dq osq
     have HJ6 : Hid (OpW w.heap.size n (Sort.grow (redrawn (wr.alloc (.cells #[.int .i64 (i : Nat), .int .i64 rd] 79)) dq) osq) g (o k j) ∧ (Sort.grow (redrawn (wr.alloc (.cells #[.int .i64 (i : Nat), .int .i64 rd] 79)) dq) osq).cell? ⟨w.heap.size, 1, none⟩ = some (.slice (some ⟨tb, toff, none⟩) n c) ∧ Below w.heap.size w (Sort.grow (redrawn (wr.alloc (.cells #[.int .i64 (i : Nat), .int .i64 rd] 79)) dq) osq) ∧ RelsIn B (Sort.grow (redrawn (wr.alloc (.cells #[.int .i64 (i : Nat), .int .i64 rd] 79)) dq) osq) (some ⟨rb, roff, none⟩) rs) :=
      ⟨HJ5.out.1.below hbq, cell_bel hbq HJ5.out.2.1, HJ5.out.2.2.1.trans (hbq.mono HJ5.out.2.2.1.size), HJ5.out.2.2.2.keep (Nat.le_trans hB HJ5.out.2.2.1.size) (Fr.of_below (S := fun _ => False) hbq) (fun _ _ t => t)⟩
     have d0 := cell_bel hbq p0
     have dT := cell_bel hbq (cell_bel HP.out.2 HP.out.1)
     have hrl := Nat.lt_of_lt_of_le (block_lt p0) hbq.size
     clear q0 q1 q2 q3 q4 p0 HP HJ5 hbq e1 e2 e2' e3 e4 e5
     generalize Sort.grow (redrawn (wr.alloc (.cells #[.int .i64 (i : Nat), .int .i64 rd] 79)) dq) osq = w6 at *
     have d1 := HJ6.out.2.1
     have hov := HJ6.out.1.c i hin
     have hoz := HJ6.out.1.z i
     go_wp2_with fail
     go_region
     have F7 : Fr (fun q => q = g) w6 (w6.setCell ⟨g, i, none⟩ (.int .i64 ((k : Int) + (tk i).T))).drew := ((Fr.refl (· = g) w6).setCell (p := ⟨g, i, none⟩) rfl _).drew
     have HJ7 : Hid (OpW w.heap.size n (w6.setCell ⟨g, i, none⟩ (.int .i64 ((k : Int) + (tk i).T))).drew g (o k (j + 1)) ∧ (w6.setCell ⟨g, i, none⟩ (.int .i64 ((k : Int) + (tk i).T))).drew.cell? ⟨w.heap.size, 1, none⟩ = some (.slice (some ⟨tb, toff, none⟩) n c) ∧ Below w.heap.size w (w6.setCell ⟨g, i, none⟩ (.int .i64 ((k : Int) + (tk i).T))).drew ∧ RelsIn B (w6.setCell ⟨g, i, none⟩ (.int .i64 ((k : Int) + (tk i).T))).drew (some ⟨rb, roff, none⟩) rs) :=
      ⟨((HJ6.out.1.set i ((k : Int) + (tk i).T) hin).below (bel_drew (Below.refl _ _))).congr HS6.out, (F7.cell (p := ⟨w.heap.size, 1, none⟩) (block_lt HJ6.out.2.1) (by show ¬ w.heap.size = g; omega)).trans HJ6.out.2.1, HJ6.out.2.2.1.trans (F7.below (fun q _ e => by omega) HJ6.out.2.2.1.size), HJ6.out.2.2.2.keep (Nat.le_trans hB HJ6.out.2.2.1.size) F7 (fun q hq e => by omega)⟩
     clear F7 HJ6 d0 d1 dT hov hoz
     generalize (w6.setCell ⟨g, i, none⟩ (.int .i64 ((k : Int) + (tk i).T))).drew = w7 at *
     go_wp2_with fail
     go_roundw
     case rel => exact ⟨j + 1, by omega, by simp, HJ7.out⟩
     case measure => simp [intOf]; omega
    ·have hjl' : j = rs.length := by omega
     subst hjl'
     have hdj : decide ((rs.length : Int) < (rs.length : Int)) = false := decide_eq_false (by omega)
     have HJ9 := Lib.hid HJ.out
     clear HJ
     go_wp2_with fail
     go_roundw
     case rel => exact ⟨k + 1, by omega, by simp, HJ9.out.1.congr HNK.out, HJ9.out.2.1, HJ9.out.2.2.1⟩
     case measure => simp [intOf]; omega
  ·have hkn : k = l.length := by omega
   subst hkn
   have hdl : decide ((l.length : Int) < (l.length : Int)) = false := decide_eq_false (by omega)
   have HK9 := Lib.hid HK.out
   clear HK
   go_wp2_with fail
   go_ret
   exact ⟨rfl, HK9.out.2.2⟩
end
section
open Go.RowKit
theorem ints_own {w : World} {base : Nat} {v : Value} {xs : List Int} (h : w.ownsRow base 3 1 v xs.length (intsV xs)) : ∃ a c, v = .slice a xs.length c ∧ IntsIn w.heap.size w a xs.length xs := by
 obtain ⟨a, c, rfl⟩ := ownsRow_form h
 refine ⟨a, c, rfl, rfl, fun h0 => ?_⟩
 obtain ⟨g, cap, hv, hg1, hg2, hg3, hg4, hg5⟩ := ownsRow_cells h h0
 simp at hv
 obtain ⟨rfl, rfl⟩ := hv
 refine ⟨g, 0, rfl, hg2, fun j hj => ?_⟩
 rw [Nat.zero_add]
 refine hg4 j _ ?_
 unfold intsV
 rw [List.getElem?_map, List.getElem?_eq_getElem hj]
 rfl
theorem faultsL_mem (σ : Nat → Bool) (k : Nat) : ∀ x ∈ faultsL σ k, 0 ≤ x ∧ x ≤ k := by
 induction k with
 | zero => intro x hx; cases hx
 | succ k ih =>
  intro x hx
  unfold faultsL at hx
  split at hx
  ·rcases List.mem_append.1 hx with h | h
   ·have := ih x h; omega
   ·simp at h; omega
  ·have := ih x hx; omega
set_option maxHeartbeats 4000000 in
set_option maxRecDepth 100000 in
theorem slegal_ok (B : Nat) (bu : Int) (a : Option Addr) (n c : Nat) (tk : Nat → Tk) (g : Int) (ai : Option Addr) (ci : Nat) (l : List (List (Int × Int) × Bool)) (o : Nat → Nat → Nat → Int) (w : World) (hS : SetOk bu n tk) (hx : TksIn B w a n tk) (hi : InsIn B w ai l) (hB : B ≤ w.heap.size) (hnc : n ≤ c)
  (hg : 1 ≤ g) (hg2 : g ≤ 1049576) (hl : l.length ≤ 100000) (hr : ∀ x ∈ l, x.1.length ≤ 100000) (hR : RelOk tk n l o) (hgap : g ≤ gapL bu (faultsL (hitOf l) l.length)) :
  Calls Tryz.prog 19 #[.agg #[.int .i64 bu, .slice a n c], .int .i64 g, .slice ai l.length ci] w fun e w' => e = .returned (.bool true) ∧ Below w.heap.size w w' := by
 have hb0 := bel_alloc (Below.refl w.heap.size w) (.cells #[.int .i64 bu, .slice a n c] 24)
 have hbox0 := cell_newb w #[.int .i64 bu, .slice a n c] 24 _ 0 _ rfl rfl
 have hbox1 := cell_newb w #[.int .i64 bu, .slice a n c] 24 _ 1 _ rfl rfl
 have HR28 : Hid (∀ W, Below w.heap.size w W → Calls Tryz.prog 28 #[.agg #[.int .i64 bu, .slice a n c]] W fun e w' => e = .returned (.bool true) ∧ Below W.heap.size W w') := fun W hW => right_ok B bu a n c tk W hS (hx.keep (hW.mono hB)) (by have := hW.size; omega) hnc
 have HREL : Hid (∀ W, Below w.heap.size w W → Calls Tryz.prog 43 #[.agg #[.int .i64 bu, .slice a n c], .slice ai l.length ci] W fun e w' => e = .returned (.bool true) ∧ Below W.heap.size W w') := fun W hW => releases_ok B bu a n c tk ai ci l o W hS (hx.keep (hW.mono hB)) (hi.keep hB (Fr.of_below (S := fun _ => False) hW) (fun _ _ t => t)) (by have := hW.size; omega) hnc hl hr hR
 have HFA : Hid (∀ W, Below w.heap.size w W → Calls Tryz.prog 45 #[.slice ai l.length ci] W fun e w' => ∃ a2 c2, e = .returned (.slice a2 (faultsL (hitOf l) l.length).length c2) ∧ IntsIn w'.heap.size w' a2 (faultsL (hitOf l) l.length).length (faultsL (hitOf l) l.length) ∧ Below W.heap.size W w') := fun W hW =>
  (faults_any B ai ci l W (hi.keep hB (Fr.of_below (S := fun _ => False) hW) (fun _ _ t => t)) (by have := hW.size; omega) hl).mono fun e w' ⟨v, he, ho, hb⟩ => by
   obtain ⟨a2, c2, rfl, h2⟩ := ints_own ho
   exact ⟨a2, c2, he, h2, hb⟩
 have HLE : Hid (∀ W a2 c2, IntsIn W.heap.size W a2 (faultsL (hitOf l) l.length).length (faultsL (hitOf l) l.length) → Calls Tryz.prog 44 #[.slice a2 (faultsL (hitOf l) l.length).length c2, .int .i64 bu, .int .i64 g] W fun e w' => e = .returned (.bool true) ∧ Below W.heap.size W w') := fun W a2 c2 h2 =>
  (blegal_any _ a2 _ c2 _ bu g W h2 (Nat.le_refl _) (by have := faultsL_len (hitOf l) l.length; omega) (fun x hx => by have := faultsL_mem (hitOf l) l.length x hx; omega) hS.b1 hS.b2).mono fun e w' ⟨he, hb⟩ => ⟨by rw [he, decide_eq_true hgap], hb⟩
 have HB0 := Lib.hid hb0
 have d1 : decide (g < 1) = false := decide_eq_false (by omega)
 have d2 : decide (1049576 < g) = false := decide_eq_false (by omega)
 have d3 : decide (100000 < (l.length : Int)) = false := decide_eq_false (by omega)
 have d3' : decide (100000 < l.length) = false := decide_eq_false (by omega)
 generalize faultsL (hitOf l) l.length = fl at *
 clear hx hi hR hS hr hb0 hgap
 go_enter Tryz.func19, Tryz.ntmps19
 go_wp2_with (go_at_call 28; refine (HR28.out _ HB0.out).mono ?_; rintro e w2 ⟨rfl, hq2⟩; have HB2 := Lib.hid (HB0.out.trans (hq2.mono HB0.out.size)); have x20 := cell_bel hq2 hbox0; have x21 := cell_bel hq2 hbox1; clear hq2)
 clear hbox0 hbox1 d1 d2 d3 d3'
 go_region_law (first | (go_simp; go_at_call 43; refine Calls.mono (by first | exact HREL.out _ HB2.out | exact HREL.out _ (bel_drew HB2.out) | exact HREL.out _ (bel_drewN HB2.out _)) ?_; rintro e w3 ⟨rfl, hq3⟩; have HB3 := Lib.hid (HB2.out.trans (show Below w.heap.size w2 w3 from ⟨hq3.os, hq3.tape, hq3.output, hq3.size, fun k hk => hq3.block k (Nat.lt_of_lt_of_le hk HB2.out.size)⟩)); have x30 := cell_bel hq3 x20; have x31 := cell_bel hq3 x21; clear hq3) | (go_simp; go_at_call 45; refine Calls.mono (HFA.out _ HB3.out) ?_; rintro e w4 ⟨a2, c2, rfl, hI4, hq4⟩; have HB4 := Lib.hid (HB3.out.trans (hq4.mono HB3.out.size)); have HI4 := Lib.hid hI4; have x40 := cell_bel hq4 x30; clear hq4 hI4) | (go_simp; go_at_call 44; refine Calls.mono (HLE.out _ a2 c2 HI4.out) ?_; rintro e w5 ⟨rfl, hq5⟩; have HB5 := Lib.hid (HB4.out.trans (hq5.mono HB4.out.size)); clear hq5))
 all_goals
  go_simp
  go_wp2_with fail
  go_ret
  exact ⟨rfl, HB5.out⟩
end
section
open Go.RowKit
section
variable {b off : Nat} {w : World} {R : World → Prop}
set_option maxRecDepth 100000 in
set_option maxHeartbeats 1600000 in
theorem slow86 (c0 : Value) (h0 : w.cell? ⟨b, off, none⟩ = some (.int .u32 0)) (h1 : w.cell? ⟨b, off + 1, none⟩ = some (.int .i32 0))
  (f0 : w.frozen? ⟨b, off, none⟩ = false) (f1 : w.frozen? ⟨b, off + 1, none⟩ = false)
  (hcl : Calls Tryz.prog 86 #[c0] (w.setCell ⟨b, off + 1, none⟩ (.int .i32 1)) fun e w' => e = .returned (.tuple #[]) ∧ R w' ∧ KeepsOnce b off w w') :
  Calls Tryz.prog 124 #[.pointer (some ⟨b, off, none⟩), .func (.func 86) #[] #[c0]] w fun e w' => e = .returned (.tuple #[]) ∧
   ∃ w1, R w1 ∧ KeepsOnce b off w w1 ∧ w' = (w1.drew.setCell ⟨b, off, none⟩ (.int .u32 1)).setCell ⟨b, off + 1, none⟩ (.int .i32 0) := by
 have hl := Lib.hid (bload_is ⟨b, off, none⟩ 0 (w.setCell ⟨b, off + 1, none⟩ (.int .i32 1)) ((World.cell?_setCell_other _ ⟨b, off + 1, none⟩ ⟨b, off, none⟩ _ (by simp)).trans h0) (r := false) rfl)
 have hnot : ∀ (x : Bool) (w : World), (Op.unary .not (.bool x)).run Tryz.prog w = .ok (.bool (!x)) w := fun _ _ => rfl
 go_enter_defers Tryz.func124, Tryz.ntmps124
 go_wp2_with (first | (go_at_call 166; refine (lock_free ⟨b, off + 1, none⟩ _ (by go_simp) (by go_simp)).mono ?_; rintro e w' ⟨rfl, rfl⟩) | (go_at_call 123; refine hl.out.mono ?_; rintro e w' ⟨rfl, rfl⟩) | (go_at_call 86; refine hcl.mono ?_; rintro e w1 ⟨rfl, hR, hK⟩))
 obtain ⟨⟨x0, k0⟩, k1, z0, z1⟩ := hK
 unfold bodyPostD
 refine leaves_cons (f := 168) (args := #[.pointer (some ⟨b, off, none⟩), .bool true]) (by simp) (by simp [go_sem]) ?_
 refine (store_deferred ⟨b, off, none⟩ x0 .returning _ k0 z0).mono ?_
 rintro e u' w'' ⟨rfl, rfl, rfl⟩
 refine leaves_cons (f := 167) (args := #[.pointer (some ⟨b, off + 1, none⟩)]) (by simp [settle]) (by simp [go_sem]) ?_
 refine (unlock_deferred ⟨b, off + 1, none⟩ _ _ ?_ (by simp [z1])).mono ?_
 ·refine (World.cell?_setCell_other _ ⟨b, off, none⟩ ⟨b, off + 1, none⟩ _ (by simp)).trans ?_
  rw [World.cell?_drew]
  exact k1
 rintro e u' w'' ⟨rfl, rfl, rfl⟩
 simp [Leaves, settle, results, Tryz.results124]
 exact ⟨w1, hR, ⟨⟨x0, k0⟩, k1, z0, z1⟩, rfl⟩
theorem do86 (c0 : Value) (h0 : w.cell? ⟨b, off, none⟩ = some (.int .u32 0)) (h1 : w.cell? ⟨b, off + 1, none⟩ = some (.int .i32 0))
  (f0 : w.frozen? ⟨b, off, none⟩ = false) (f1 : w.frozen? ⟨b, off + 1, none⟩ = false)
  (hcl : Calls Tryz.prog 86 #[c0] (w.setCell ⟨b, off + 1, none⟩ (.int .i32 1)) fun e w' => e = .returned (.tuple #[]) ∧ R w' ∧ KeepsOnce b off w w') :
  Calls Tryz.prog 85 #[.pointer (some ⟨b, off, none⟩), .func (.func 86) #[] #[c0]] w fun e w' => e = .returned (.tuple #[]) ∧
   ∃ w1, R w1 ∧ KeepsOnce b off w w1 ∧ w' = (w1.drew.setCell ⟨b, off, none⟩ (.int .u32 1)).setCell ⟨b, off + 1, none⟩ (.int .i32 0) := by
 have hl := Lib.hid (bload_is ⟨b, off, none⟩ 0 w h0 (r := false) rfl)
 have HS := Lib.hid (slow86 c0 h0 h1 f0 f1 hcl)
 have hnot : ∀ (x : Bool) (w : World), (Op.unary .not (.bool x)).run Tryz.prog w = .ok (.bool (!x)) w := fun _ _ => rfl
 clear hcl
 go_enter Tryz.func85, Tryz.ntmps85
 go_wp2_with (first | (go_at_call 123; refine hl.out.mono ?_; rintro e w' ⟨rfl, rfl⟩) | (go_at_call 124; refine HS.out.mono ?_; rintro e w' ⟨rfl, hx⟩))
 go_end0
 exact ⟨rfl, hx⟩
set_option maxRecDepth 100000 in
theorem do86_done (c0 : Value) (h0 : w.cell? ⟨b, off, none⟩ = some (.int .u32 1)) :
  Calls Tryz.prog 85 #[.pointer (some ⟨b, off, none⟩), .func (.func 86) #[] #[c0]] w fun e w' => e = .returned (.tuple #[]) ∧ w' = w := by
 have hl := Lib.hid (bload_is ⟨b, off, none⟩ 1 w h0 (r := true) rfl)
 have hnot : ∀ (x : Bool) (w : World), (Op.unary .not (.bool x)).run Tryz.prog w = .ok (.bool (!x)) w := fun _ _ => rfl
 go_enter Tryz.func85, Tryz.ntmps85
 go_wp2_with (go_at_call 123; refine hl.out.mono ?_; rintro e w' ⟨rfl, rfl⟩)
 go_end0
 exact ⟨rfl, rfl⟩
end
theorem textL_len : textL.length = 108 := by decide +kernel
theorem pset_stated (W : World) (tb tc : Nat) (hb : BytesIn W tb 0 textL) (hbl : tb < W.heap.size) (hc : textL.length ≤ tc) :
  Calls Tryz.prog 88 #[.slice (some ⟨tb, 0, none⟩) textL.length tc] W fun e w' => ∃ b2 c2, e = .returned (.tuple #[.agg #[.int .i64 1, .slice (some ⟨b2, 0, none⟩) 3 c2], .agg #[.int .i64 0, .int .i64 0, .int .i64 0]]) ∧ W.heap.size ≤ b2 ∧ TksIn w'.heap.size w' (some ⟨b2, 0, none⟩) 3 tkS ∧ 3 ≤ c2 ∧ Below W.heap.size W w' := by
 have hS : SetOk (tokT 1).value 3 (fun j => tkOf tokT (3 + 13 * j) (msS j)) := by
  rw [tok_burst]
  have e := stated_tk
  have h := stated_right
  exact ⟨h.b1, h.b2, h.n1, h.n2, fun i hi => by rw [e i hi]; exact h.nm i hi, fun i hi => by rw [e i hi]; exact h.ok i hi, fun i k hi hk => by rw [e i hi, e k (by omega)]; exact h.df i k hi hk, fun i k hi hk => by rw [e i hi, e k (by omega)]; exact h.pr i k hi hk⟩
 refine (pset_is hb hbl hc (by rw [textL_len]; omega) lexed toks_at toks_len stated_toks (by omega) hS).mono ?_
 rintro e w' ⟨b2, c2, rfl, h1, h2, h3, h4⟩
 rw [tok_burst]
 refine ⟨b2, c2, rfl, h1, fun h0 => ?_, h3, h4⟩
 obtain ⟨bb, oo, e1, e2, e3⟩ := h2 h0
 exact ⟨bb, oo, e1, e2, fun j hj => by rw [← stated_tk j hj]; exact e3 j hj⟩
theorem least_stated (W : World) (B b2 c2 : Nat) (hx : TksIn B W (some ⟨b2, 0, none⟩) 3 tkS) (hB : B ≤ W.heap.size) (hc : 3 ≤ c2) :
  Calls Tryz.prog 9 #[.agg #[.int .i64 1, .slice (some ⟨b2, 0, none⟩) 3 c2]] W fun e w' => ∃ late rb, e = .returned (.tuple #[.int .i64 6, .agg #[.bool true, .int .i64 late, .slice (some ⟨rb, 0, none⟩) 3 3], .int .i64 0]) ∧ Below W.heap.size W w' := by
 refine (least_any B 1 _ 3 c2 tkS W stated_right hx hB hc).mono ?_
 rintro e w' ⟨late, rb, hb, _, h⟩
 rcases h with ⟨_, rfl, _⟩ | ⟨h, _⟩
 ·exact ⟨late, rb, by rw [leastS_stated]; rfl, hb⟩
 ·rw [leastS_stated] at h; exact absurd h (by decide)
end
end Go.Proofs.YtnoahekcemfmcaaGreatDoor
