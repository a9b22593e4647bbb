/- A part of the walk: Ma Mc. -/
import Derived.Test.YtnoahekcemfmcaaGreatDoorQ47
import Derived.Test.YtnoahekcemfmcaaGreatDoorQ25
import Derived.Test.YtnoahekcemfmcaaGreatDoorQ48
import Derived.Test.YtnoahekcemfmcaaGreatDoorQ44
import Derived.Test.YtnoahekcemfmcaaGreatDoorQ49
import Derived.Test.YtnoahekcemfmcaaGreatDoorRows
import Derived.Test.YtnoahekcemfmcaaGreatDoorQ08
import Derived.WalkKit
import Derived.ProofKit
import Derived.OpenShut
import Derived.ChangeOld
import Derived.Below
import Derived.Deep.Slices
import Derived.Deep.Fields
import Derived.ChangeSame
import Derived.Lib.SmallJoins
import Derived.SizedLaws
namespace Go.Proofs.YtnoahekcemfmcaaGreatDoor
set_option linter.unusedVariables false
set_option linter.unusedSimpArgs false
section
open Go.RowKit
set_option maxHeartbeats 80000000 in
set_option maxRecDepth 100000 in
theorem bands_walk (B : Nat) (bu : Int) (a : Option Addr) (n c : Nat) (tk : Nat → Tk) (ai : Option Addr) (ci : Nat) (l : List (List (Int × Int) × Bool)) (w : World) (hx : TksIn B w a n tk) (hi : InsIn B w ai l) (hB : B ≤ w.heap.size) (hn : n ≤ 9223372036854775807) (hnc : n ≤ c) (hl : l.length ≤ 9223372036854775807) (hll : ∀ x ∈ l, x.1.length ≤ 140737488355328) :
  Calls Tryz.prog 4 #[.agg #[.int .i64 bu, .slice a n c], .slice ai l.length ci] w fun e w' => e = .returned (.bool true) ∧ Below w.heap.size w w' := by
 have hmo : Tryz.prog.follows .mixedOrders = true := by kernel_rfl
 have hb0 := bel_alloc (Below.refl w.heap.size w) (.cells #[.int .i64 bu, .slice a n c] 24)
 have x0 := cell_newb w #[.int .i64 bu, .slice a n c] 24 _ 0 _ rfl rfl
 have x1 := cell_newb w #[.int .i64 bu, .slice a n c] 24 _ 1 _ rfl rfl
 have H13 : Hid (∀ W, Below w.heap.size w W → Calls Tryz.prog 13 #[.agg #[.int .i64 bu, .slice a n c]] W fun e w' => AnyB e ∧ Below W.heap.size W w') := fun W hW => rfew_any B bu a n c tk W (hx.keep (hW.mono hB)) (by have := hW.size; omega) hn
 have H14 : Hid (∀ W, Below w.heap.size w W → Calls Tryz.prog 14 #[.agg #[.int .i64 bu, .slice a n c]] W fun e w' => RetB e (SetOk bu n tk) ∧ Below W.heap.size W w') := fun W hW => rright_any B bu a n c tk W (hx.keep (hW.mono hB)) (by have := hW.size; omega) hn
 have H15 : Hid (∀ W, Below w.heap.size w W → Calls Tryz.prog 15 #[.slice ai l.length ci] W fun e w' => RetB e (l.length ≤ 400 ∧ relsN l ≤ 1000) ∧ w' = W) := fun W hW => ifew_any B ai ci l W (hi.keep hB (Fr.of_below (S := fun _ => False) hW) (fun _ _ t => t)) (by have := hW.size; omega) hl hll
 have HX := Lib.hid hx
 have HI := Lib.hid hi
 have HB0 := Lib.hid hb0
 clear hx hi hb0 hll
 go_enter Tryz.func4, Tryz.ntmps4
 go_wp2_with (first
  |(go_at_call 7; refine (awake_is _).mono ?_; rintro e w9 ⟨rfl, hq9⟩; have HQ9 := Lib.hid (by first | exact HQ15.out.trans (hq9.mono HQ15.out.size) | exact HQ14.out.trans (hq9.mono HQ14.out.size) | exact HQ13.out.trans (hq9.mono HQ13.out.size) | exact HB0.out.trans (hq9.mono HB0.out.size)); have x0 := cell_bel hq9 x0; have x1 := cell_bel hq9 x1; clear hq9)
  |(go_at_call 13; refine (H13.out _ HQ9.out).mono ?_; rintro e w2 ⟨⟨b1, rfl⟩, hq2⟩; have HQ13 := Lib.hid (HQ9.out.trans (hq2.mono HQ9.out.size)); have x0 := cell_bel hq2 x0; have x1 := cell_bel hq2 x1; clear hq2)
  |(go_at_call 14; refine (H14.out _ HQ13.out).mono ?_; rintro e w3 ⟨⟨b2, rfl, hb2⟩, hq3⟩; have HS2 := Lib.hid hb2; have HQ14 := Lib.hid (HQ13.out.trans (hq3.mono HQ13.out.size)); have x0 := cell_bel hq3 x0; have x1 := cell_bel hq3 x1; clear hq3 hb2)
  |(go_at_call 15; refine (H15.out _ HQ14.out).mono ?_; rintro e w4 ⟨⟨b3, rfl, hb3⟩, hw4⟩; have HS3 := Lib.hid hb3; have HQ15 := Lib.hid (hw4 ▸ HQ14.out); have x0 := hw4 ▸ x0; have x1 := hw4 ▸ x1; clear hw4 hb3))
 all_goals first
  |(go_ret; exact ⟨rfl, HQ9.out⟩)
  | skip
 have hS := HS2.out (by first | rfl | assumption)
 have h3 := HS3.out (by have h : (!b3) = false := (by assumption); simpa using h)
 have hB4 : B ≤ w4.heap.size := Nat.le_trans hB HQ15.out.size
 refine (xnew_even B bu a n c tk w4 hS (HX.out.keep (HQ15.out.mono hB)) hB4 hnc 1 (.inl rfl)).mono ?_
 rintro e w5 ⟨A, col1, F1, jb1, gs1, rfl, hX, hb1, hc1⟩
 have HX5 := Lib.hid hX
 have HB5 := Lib.hid hb1
 have HC1 := Lib.hid hc1
 have y1 := cell_bel hb1 x1
 have HSS := Lib.hid hS
 have hn16 := hS.n2
 have hl4 := h3.1
 have hr4 := h3.2
 have hw4 := HQ15.out.size
 have hbl4 : w.heap.size < w4.heap.size := block_lt x1
 have HIS : Hid (∀ W, Fr (fun q => col1 q ≠ 0) w5 W → InsIn B W ai l) := fun W hf =>
  (HI.out.keep hB (Fr.of_below (S := fun _ => False) (HQ15.out.trans (hb1.mono HQ15.out.size))) (fun _ _ t => t)).keep (by have := hb1.size; omega) hf (fun b hb e => e (HC1.out b (by omega)))
 clear hX hb1 hc1 hS h3 HS2 HS3 H13 H14 H15 HQ9 HQ13 HQ14 HI x0 x1
 go_wp2_with fail
 have hlI : (l.length : Int) ≤ 400 := by omega
 obtain ⟨B4, hB4e⟩ : ∃ B4, B4 = w4.heap.size := ⟨_, rfl⟩
 rw [← hB4e] at HX5 HB5 HC1
 have hBL : w.heap.size < B4 := by omega
 have hY1 : Hid (∀ W, Fr (fun q => col1 q ≠ 0) w5 W → W.cell? ⟨w.heap.size, 1, none⟩ = some (.slice a n c)) := fun W hf => (hf.cell (p := ⟨w.heap.size, 1, none⟩) (block_lt y1) (fun e => e (HC1.out _ (by omega)))).trans y1
 go_loopw [7] (fun ix wx => ∃ k : Nat, k ≤ l.length ∧ ix = .int .i64 k ∧ Hid (∃ s ev col so F hm jbk gs out', Ticks tk n (St0 tk) (l.take k) s ev ∧ Inv tk n 0 s ∧ s.now = k ∧ Nos n s ∧ XW B4 A bu n tk wx s out' (k * (n + 2) + relsN (l.take k)) col F hm so jbk gs s.job ∧ XR col1 w5 col wx)) (fun ix _ => l.length - (intOf ix).toNat)
 case atStart => exact ⟨0, Nat.zero_le _, rfl, St0 tk, [], col1, .slice none 0 0, F1, [], jb1, gs1, [], .nil _, inv_zero HSS.out.ok, rfl, nos_zero, by simpa [relsN] using HX5.out, XR.refl _ _⟩
 case round =>
  obtain ⟨k, hk, rfl, HR⟩ := hrel
  by_cases hlt : k < l.length
  ·have hkI : (k : Int) < (l.length : Int) := by omega
   have hk0 : (0 : Int) ≤ (k : Int) := by omega
   have hdl : decide ((k : Int) < (l.length : Int)) = true := decide_eq_true hkI
   obtain ⟨s, ev, col, so, F, hm, jbk, gs, out', q1, q2, q3, q4, q5, q6⟩ := HR.out
   have HJ1 := Lib.hid (jobs_is q5)
   obtain ⟨b, off, hai, hbB, hcs⟩ := (HIS.out wr q6.fr) (by omega)
   subst hai
   obtain ⟨aj, cj, c0, c1, c2⟩ := hcs k hlt
   have hrt := relsN_take l k hlt
   have hrl : relsN (l.take (k + 1)) ≤ relsN l := by
    have := relsN_app (l.take (k + 1)) (l.drop (k + 1))
    rw [List.take_append_drop] at this
    omega
   obtain ⟨x, hxk⟩ : ∃ x, x = l[k] := ⟨_, rfl⟩
   rw [← hxk] at c0 c1 c2 hrt
   have htk := take_more l k hlt
   rw [← hxk] at htk
   have hkn : k * (n + 2) ≤ 400 * (n + 2) := Nat.mul_le_mul_right _ (by omega)
   have hk1 : (k + 1) * (n + 2) = k * (n + 2) + n + 2 := by rw [Nat.add_mul]; omega
   have HT : Hid (∀ w6, Below wr.heap.size wr w6 → Calls Tryz.prog 18 #[.pointer (some ⟨A.x, 0, none⟩), .agg #[.slice aj x.1.length cj, .bool x.2]] w6 _) := fun w6 hb => tick_is (q5.below hb) q2 aj cj x.1 ((c2.more (by have := q5.low.1; omega)).keep (by have := q5.low.1; omega) (Fr.of_below (S := fun _ => False) hb) (fun _ _ t => t)) x.2 (by omega) (by omega) (by omega)
   have HQ := Lib.hid (And.intro q1 (And.intro q3 (And.intro q4 (And.intro q6 q5.low.1))))
   have HC0 : Hid (∀ k, wr.heap.size ≤ k → col k = 0) := fun k hk => Decidable.byContradiction fun e => absurd (q5.c.lt k e).2 (by omega)
   have HXK := Lib.hid hxk
   have HTK := Lib.hid htk
   have HRT := Lib.hid hrt
   have HK1 := Lib.hid hk1
   have hm0 := jobsTo_len s.job n
   have hxl : x.1.length ≤ 1000 := by omega
   clear q1 q2 q3 q4 q5 q6 HR hcs c2 hxk htk hrt hk1 hrl hkn
   go_wp2_with (first
    |(go_at_call 17; refine HJ1.out.mono ?_; rintro e w6 ⟨⟨a1, n1, rfl, ho1⟩, hb6⟩; have HO1 := Lib.hid ho1; have HB6 := Lib.hid hb6; have c06 := cell_bel hb6 c0; have c16 := cell_bel hb6 c1; clear ho1 hb6 HJ1)
    |(go_at_call 18; refine (HT.out _ HB6.out).mono ?_; rintro e w7 ⟨v6, s6, ev6, rfl, p1, p2, p3, col6, so6, F6, hm6, jb6, gs6, out6, H6, R6, p4⟩; obtain ⟨a6, c6, h6⟩ := ownsRow_form p3; subst h6; have HP1 := Lib.hid p1; have HP2 := Lib.hid p2; have HP3 := Lib.hid p3; have HP4 := Lib.hid p4; have HH6 := Lib.hid H6; have HR6 := Lib.hid R6; have HJ2 := Lib.hid (jobs_is H6); clear p1 p2 p3 p4 H6 R6 HT c06 c16 c0 c1)
    |(go_at_call 17; refine HJ2.out.mono ?_; rintro e w8 ⟨⟨a2, n2, rfl, ho2⟩, hb8⟩; have HO2 := Lib.hid ho2; have HB8 := Lib.hid hb8; clear ho2 hb8 HJ2))
   have hb78 := HB8.out
   have hnos := HQ.out.2.2.1
   have HLAW : Hid (∀ x ∈ jobsTo s6.job n, x.2.must = false → (∃ a0, (x.1, a0) ∈ jobsTo s.job n ∧ a0.no = x.2.no ∧ a0 ≠ x.2) → ∀ y ∈ jobsTo s6.job n, y.2.must = false) := fun x hx hm ⟨a0, h1, h2, h3⟩ y hy => by
    obtain ⟨g1, g2⟩ := jobs_mem.1 hx
    obtain ⟨g3, g4⟩ := jobs_mem.1 h1
    obtain ⟨g5, g6⟩ := jobs_mem.1 hy
    exact bands_one hnos HP1.out g1 g4 g2 h2 h3 hm g5 g6
   have HROW2 : Hid (∀ W, Below w8.heap.size w8 W → ∀ j (hj : j < (jobsTo s6.job n).length), ∃ g, a2 = some ⟨g, 0, none⟩ ∧ W.rangeAt g (j * 23) (jpc tk (jobsTo s6.job n)[j])) := fun W hW j hj => by
    obtain ⟨g, h1, h2, h3⟩ := jobs_row HO2.out j hj
    exact ⟨g, h1, rg_below hW h3 h2⟩
   have HW67 : Hid (Fr (fun q => col q ≠ 0) w6 w7 ∧ w6.heap.size ≤ w7.heap.size) := ⟨HR6.out.fr, HR6.out.fr.size⟩
   have HROW1 : Hid (∀ W, Below w8.heap.size w8 W → ∀ j (hj : j < (jobsTo s.job n).length), ∃ g, a1 = some ⟨g, 0, none⟩ ∧ W.rangeAt g (j * 23) (jpc tk (jobsTo s.job n)[j])) := fun W hW j hj => by
    obtain ⟨g, h1, h2, h3⟩ := jobs_row HO1.out j hj
    have hgb := ownsRow_block HO1.out g (by rw [h1]; rfl)
    exact ⟨g, h1, rg_below hW (Nat.lt_of_lt_of_le h3 (Nat.le_trans HW67.out.2 HB8.out.size)) (rg_below HB8.out (Nat.lt_of_lt_of_le h3 HW67.out.2) (rg_fr HW67.out.1 h3 (fun e => e (HC0.out g hgb)) h2))⟩
   have hm1 := jobsTo_len s.job n
   have hm2 := jobsTo_len s6.job n
   clear hb78 hnos HO1 HO2
   generalize hL1 : jobsTo s.job n = L1 at *
   generalize hL2 : jobsTo s6.job n = L2 at *
   clear hL1 hL2
   have hm1I : (L1.length : Int) ≤ 16 := by omega
   have hm2I : (L2.length : Int) ≤ 16 := by omega
   go_loopw [12] (fun kx wx => ∃ kk : Nat, kk ≤ L2.length ∧ kx = .int .i64 kk ∧ Hid (Below w8.heap.size w8 wx)) (fun kx _ => L2.length - (intOf kx).toNat)
   case atStart => exact ⟨0, Nat.zero_le _, rfl, Below.refl _ _⟩
   case round =>
    obtain ⟨kk, hkk, rfl, HW⟩ := hrel
    by_cases hkl : kk < L2.length
    ·have hkkI : (kk : Int) < (L2.length : Int) := by omega
     have hkk0 : (0 : Int) ≤ (kk : Int) := by omega
     have hdk : decide ((kk : Int) < (L2.length : Int)) = true := decide_eq_true hkkI
     obtain ⟨g2, rfl, hg2⟩ := HROW2.out wr HW.out kk hkl
     have HX2 := Lib.hid (HLAW.out L2[kk] (List.getElem_mem hkl))
     obtain ⟨x2, hx2⟩ : ∃ x, x = L2[kk] := ⟨_, rfl⟩
     have HX2e := Lib.hid hx2
     rw [← hx2] at hg2 HX2
     clear hx2
     obtain ⟨i2, J2⟩ := x2
     have c4 := hg2 4 _ rfl
     have c0' := hg2 0 _ rfl
     have c1' := hg2 1 _ rfl
     simp only [Nat.add_zero] at c0'
     have HG2 := Lib.hid hg2
     clear hg2
     cases hmu : J2.must
     ·rw [hmu] at c4
      go_wp2_with fail
      have HMU := Lib.hid hmu
      have hkW := HW.out
      clear c4 hmu
      go_loopw [14, 13] (fun jx s13 wx => ∃ (j : Nat) (r : Bool), j ≤ L1.length ∧ jx = .int .i64 j ∧ s13 = .bool r ∧ Hid (r = true → ∃ a0, (i2, a0) ∈ L1 ∧ a0.no = J2.no ∧ a0 ≠ J2) ∧ Hid (Below w8.heap.size w8 wx)) (fun jx _ _ => L1.length - (intOf jx).toNat)
      case atStart => exact ⟨0, false, Nat.zero_le _, rfl, rfl, Lib.hid (fun h => by cases h), hkW⟩
      case round =>
       obtain ⟨j, r, hj, rfl, rfl, HRN, HW2⟩ := hrel
       by_cases hjl : j < L1.length
       ·have hjI : (j : Int) < (L1.length : Int) := by omega
        have hj0 : (0 : Int) ≤ (j : Int) := by omega
        have hdj : decide ((j : Int) < (L1.length : Int)) = true := decide_eq_true hjI
        obtain ⟨g1, rfl, hg1⟩ := HROW1.out wr HW2.out j hjl
        obtain ⟨g2', hge, hg2⟩ := HROW2.out wr HW2.out kk hkl
        cases hge
        have HM1 := Lib.hid (List.getElem_mem hjl)
        have hx2e := HX2e.out
        rw [← hx2e] at hg2
        obtain ⟨x1, hx1⟩ : ∃ x, x = L1[j] := ⟨_, rfl⟩
        rw [← hx1] at hg1 HM1
        clear hx1
        obtain ⟨i1, J1⟩ := x1
        have G1 := Lib.hid hg1
        have G2 := Lib.hid hg2
        clear hg1 hg2 c0' c1' hx2e
        go_wp2_with fail
        refine r22 _ _ _ _ _ _ _ _ _ _ _ _ _ _ _ _ _ _ _ _ _ _ _ _ _ _ _ _ _ _ _ _ _ _ _ _ _ _ _ _ _ _ _ _ _ _ _ _ _ _ _ _ _ _ _ _ _ _ _ _ _ _ _ _ _ _ _ _ _ _ _ _ _ _ _ _ _ _ _ _ _ _ _ _ _ _ _ _ _ _ _ _ _ _ _ _ _ _ _ _ _ _ _ _ _ _ _ _ _ _ _ _ _ _ _ _ _ _ _ _ _ _ _ _ _ _ _ _ _ _ _ _ _ _ _ _ _ _ _ _ _ _ _ _ _ _ _ _ _ _ _ _ _ _ _ _ _ _ tk i1 i2 J1 J2 G1.out G2.out hjl hkl (by omega) (by omega) _ ?_ _ (by rfl)
        intro z hz83 x83 x84 x85 x86 x87 x88 x89 x90 x91 x92 x93 x94 x95 x96 x97 x98 x99 x100 x101 x102 x103 x104 x105 x106 x107 x108 x109 x110 x111 x112 x113 x114 x115 x116 x117 x118 x119 x120 x121 x122 dq osq
        have HZ := Lib.hid hz83
        have HW3 := Lib.hid (HW2.out.trans ((below_regrown wr dq osq).mono HW2.out.size))
        clear hz83
        generalize Sort.grow (redrawn wr dq) osq = wz at *
        go_wp2_with fail
        go_roundw
        case rel =>
         refine ⟨j + 1, z, by omega, by simp, rfl, Lib.hid (fun h => ?_), HW3.out⟩
         rcases HZ.out h with hr | ⟨h1, h2, h3⟩
         ·exact HRN.out hr
         ·subst h1; exact ⟨J1, HM1.out, h2, h3⟩
        case measure => simp [intOf]; omega
       ·have hjl' : j = L1.length := by omega
        subst hjl'
        have hdj : decide ((L1.length : Int) < (L1.length : Int)) = false := decide_eq_false (by omega)
        have hkW2 := HW2.out
        have HALL : Hid (r = true → ∀ y ∈ L2, y.2.must = false) := fun hr => HX2.out HMU.out (HRN.out hr)
        clear HRN c0' c1'
        go_wp2_with fail
        go_loopw [15] (fun yx wx => ∃ y : Nat, y ≤ L2.length ∧ yx = .int .i64 y ∧ Hid (Below w8.heap.size w8 wx)) (fun yx _ => L2.length - (intOf yx).toNat)
        case atStart => exact ⟨0, Nat.zero_le _, rfl, hkW2⟩
        case round =>
         obtain ⟨y, hy, rfl, HW3⟩ := hrel
         clear hdj
         by_cases hyl : y < L2.length
         ·have hyI : (y : Int) < (L2.length : Int) := by omega
          have hy0 : (0 : Int) ≤ (y : Int) := by omega
          have hdy : decide ((y : Int) < (L2.length : Int)) = true := decide_eq_true hyI
          cases hr : r
          ·go_wp2_with fail
           go_roundw
           case rel => exact ⟨kk + 1, by omega, by simp, HW3.out⟩
           case measure => simp [intOf]; omega
          ·obtain ⟨g3, hge3, hg3⟩ := HROW2.out wr HW3.out y hyl
           cases hge3
           have c4y := hg3 4 _ rfl
           have hyf := HALL.out hr _ (List.getElem_mem hyl)
           rw [hyf] at c4y
           clear hg3 hyf
           go_wp2_with fail
           go_roundw
           case rel => exact ⟨y + 1, by omega, by simp, HW3.out⟩
           case measure => simp [intOf]; omega
         ·have hyl' : y = L2.length := by omega
          subst hyl'
          have hdy : decide ((L2.length : Int) < (L2.length : Int)) = false := decide_eq_false (by omega)
          go_wp2_with fail
          go_roundw
          case rel => exact ⟨kk + 1, by omega, by simp, HW3.out⟩
          case measure => simp [intOf]; omega
     ·rw [hmu] at c4
      go_wp2_with fail
      go_roundw
      case rel => exact ⟨kk + 1, by omega, by simp, HW.out⟩
      case measure => simp [intOf]; omega
    ·have hkk' : kk = L2.length := by omega
     subst hkk'
     have hdk : decide ((L2.length : Int) < (L2.length : Int)) = false := decide_eq_false (by omega)
     have hbw := HB8.out.trans (HW.out.mono HB8.out.size)
     have hxr : XR col1 w5 col6 wr := HQ.out.2.2.2.1.trans ((XR.of_below HB6.out).trans (HR6.out.trans (XR.of_below hbw)))
     have cy := hY1.out wr hxr.fr
     obtain ⟨b', off', hai', _, hcs'⟩ := (HIS.out wr hxr.fr) (by omega)
     cases hai'
     obtain ⟨aj', cj', cx, _, _⟩ := hcs' k hlt
     rw [← HXK.out] at cx
     have hev := events_few HP1.out
     have hN : Hid (∃ s ev col so F hm jbk gs out', Ticks tk n (St0 tk) (l.take (k + 1)) s ev ∧ Inv tk n 0 s ∧ s.now = k + 1 ∧ Nos n s ∧ XW B4 A bu n tk wr s out' ((k + 1) * (n + 2) + relsN (l.take (k + 1))) col F hm so jbk gs s.job ∧ XR col1 w5 col wr) := by
      refine ⟨s6, ev ++ ev6, col6, so6, F6, hm6, jb6, gs6, out6, ?_, HP2.out, ?_, nos_tick HP1.out HQ.out.2.2.1, ?_, hxr⟩
      ·rw [HTK.out]; exact HQ.out.1.snoc HP1.out
      ·rw [tick_now HP1.out, HQ.out.2.1]
      ·have h7 := HH6.out.below hbw
       rw [HK1.out, HRT.out, show k * (n + 2) + n + 2 + (relsN (List.take k l) + x.1.length) = k * (n + 2) + relsN (List.take k l) + n + x.1.length + 2 by omega]
       exact h7
     have HSZ := Lib.hid (Below.refl wr.heap.size wr)
     have cyd := fun d os => cell_regrown cy d os
     have cxd := fun d os => cell_regrown cx d os
     have hdg : decide (4 * (n : Int) + (x.1.length : Int) + 3 < (ev6.length : Int)) = false := decide_eq_false (by omega)
     have hwn : IntKind.i64.wrap (4 * (n : Int)) = 4 * (n : Int) := by rw [IntWalk.i64_in _ (by omega)]
     have hwn2 : IntKind.i64.wrap (4 * (n : Int) + (x.1.length : Int)) = 4 * (n : Int) + (x.1.length : Int) := by rw [IntWalk.i64_in _ (by omega)]
     have hwn3 : IntKind.i64.wrap (4 * (n : Int) + (x.1.length : Int) + 3) = 4 * (n : Int) + (x.1.length : Int) + 3 := by rw [IntWalk.i64_in _ (by omega)]
     clear hcs' hbw hxr cy cx HW HP1 HP2 HH6 HR6 HQ HROW1 HROW2 HLAW hdk HW67 HB8 HB6 HP3 HP4 HC0 HTK HRT HK1 HXK
     go_wp2_with fail
     refine wp_region_quiet_below hmo (by kernel_rfl) (WQ.out ?_)
     repeat (refine WQ.step (fun K hK => ?_); go_simp; refine hK _ ?_; clear hK K)
     refine WQ.nil ?_
     intro _ hw'
     obtain ⟨⟨dq, osq⟩, hw''⟩ := hw'
     subst hw''
     have HN : Hid (∃ s ev col so F hm jbk gs out', Ticks tk n (St0 tk) (l.take (k + 1)) s ev ∧ Inv tk n 0 s ∧ s.now = k + 1 ∧ Nos n s ∧ XW B4 A bu n tk (Sort.grow (redrawn wr dq) osq) s out' ((k + 1) * (n + 2) + relsN (l.take (k + 1))) col F hm so jbk gs s.job ∧ XR col1 w5 col (Sort.grow (redrawn wr dq) osq)) := by
      obtain ⟨s', ev', col', so', F', hm', jb', gs', o', r1, r2, r3, r4, r5, r6⟩ := hN.out
      exact ⟨s', ev', col', so', F', hm', jb', gs', o', r1, r2, r3, r4, r5.below (below_regrown wr dq osq), r6.trans (XR.of_below (below_regrown wr dq osq))⟩
     clear cyd cxd hN HSZ
     generalize Sort.grow (redrawn wr dq) osq = wz at *
     go_wp2_with fail
     go_roundw
     case rel => exact ⟨k + 1, by omega, by simp, HN⟩
     case measure => simp [intOf]; omega
  ·have hkn : k = l.length := by omega
   subst hkn
   have hdl : decide ((l.length : Int) < (l.length : Int)) = false := decide_eq_false (by omega)
   have HE : Hid (Below w.heap.size w wr) := by
    obtain ⟨s, ev, col, so, F, hm, jbk, gs, out', q1, q2, q3, q4, q5, q6⟩ := HR.out
    have hz5 := HB5.out.size
    have hz15 := HQ15.out.size
    exact HQ15.out.trans (((HB5.out).mono (by omega)).trans (q6.fr.below (fun q _ e => by
     by_cases h : B4 ≤ q
     ·omega
     ·exact absurd (HC1.out q (by omega)) e) (by omega)))
   clear HR
   go_wp2_with fail
   go_ret
   exact ⟨rfl, HE.out⟩
end
section
open Go.ChangeShapes Go.WideShapes Go.ChangeAt Go.RowKit Go.Deep Go.Joins
theorem own : ownKnob Tryz.prog.godebug = none := by kernel_rfl
theorem laidOut : laidOutB Tryz.prog = true := by kernel_rfl
section
variable {H : Type} {enc : TypeId × Value → H} {P : Program} {w : World} {base : Nat} {spare : Nat → Bool} {held : Bool}
theorem open_slice_fields {t e : TypeId} {fs : Array Field} {fuel : Nat} {cs : List Value} {x : DataW H × List MemPlace} (ht : P.underlying t = some (.slice e)) (he : P.underlying e = some (.struct fs))
  (hone : oneCellFields P fs = true) (hC : P.cellsOf e = fs.size) (h : DataW.trod enc P w base spare held fuel t cs = some x) :
  (cs = [.slice none 0 0] ∧ x = (.nil, [])) ∨
  ∃ (a : Addr) (len cap m : Nat) (D : Nat → DataW H) (Pl : Nat → List MemPlace), cs = [.slice (some a) len cap] ∧ base ≤ a.block ∧ len ≤ cap ∧ cap ≤ maxLen ∧ m = (if spare a.block then cap else len) ∧
   x = (.slice ((List.range len).map D) ((List.range (m - len)).map fun j => D (len + j)), MemPlace.row a (m * fs.size) ++ (List.range m).flatMap Pl) ∧
   ∀ i, i < m → ∃ (ys : List (DataW H × List MemPlace)) (n : Nat), D i = .agg (ys.map (·.1)) ∧ Pl i = ys.flatMap (·.2) ∧ ys.length = fs.size ∧
    ∀ (j : Nat) (f : Field), fs[j]? = some f → ∃ (v : Value) (y : DataW H × List MemPlace), w.cell? (a.add (i * fs.size + j)) = some v ∧ ys[j]? = some y ∧ DataW.trod enc P w base spare held n f.type [v] = some y := by
 rcases open_slice ht h with h0 | ⟨a, len, cap, m, n, D, Pl, hcs, hb, hl, hm, hmm, hx, hi⟩
 ·exact .inl h0
 ·refine .inr ⟨a, len, cap, m, D, Pl, hcs, hb, hl, hm, hmm, by rw [hC] at hx; exact hx, fun i him => ?_⟩
  obtain ⟨cs', hc, ht'⟩ := hi i him
  rw [hC] at hc
  obtain ⟨ys, n', hn', hy, hlen, hyl, hf⟩ := DataW.trod_struct he ht'
  obtain ⟨_, hcl, hat⟩ := World.cells?_some hc
  simp only [Prod.mk.injEq] at hy
  refine ⟨ys, n', hy.1, hy.2, hyl, fun j f hj => ?_⟩
  obtain ⟨ho, hk⟩ := hone_of hone j f hj
  have hjl : j < fs.size := (Array.getElem?_eq_some_iff.1 hj).1
  have hcell := hat j hjl
  have hv : cs'[j]? = some (cs'[j]'(by omega)) := List.getElem?_eq_getElem (by omega)
  have h1 := hf j f hj
  rw [ho, hk] at h1
  have hone' : (cs'.drop j).take 1 = [cs'[j]'(by omega)] := by
   rw [List.drop_eq_getElem_cons (by omega)]
   rfl
  rw [hone'] at h1
  have hys : ys[j]? = some (ys[j]'(by omega)) := List.getElem?_eq_getElem (by omega)
  refine ⟨_, _, ?_, hys, h1.trans hys⟩
  rw [← Go.Deep.add_add, hcell, hv]
end
section
variable {H : Type} {enc : TypeId × Value → H} {w : World} {spare : Nat → Bool} {held : Bool} {base : Nat}
theorem int_one {fuel : Nat} {u : Value} {x : DataW H × List MemPlace} (h : DataW.trod enc Tryz.prog w base spare held fuel 3 [u] = some x) : ∃ n, u = .int .i64 n := by
 obtain ⟨n, e, _, hw⟩ := DataW.trod_int Tryz.underlying3 h
 simp at e
 exact ⟨n, e⟩
theorem bool_one {fuel : Nat} {u : Value} {x : DataW H × List MemPlace} (h : DataW.trod enc Tryz.prog w base spare held fuel 4 [u] = some x) : ∃ n, u = .bool n := by
 obtain ⟨n, e, _⟩ := DataW.trod_bool Tryz.underlying4 h
 simp at e
 exact ⟨n, e⟩
theorem str_one {fuel t : Nat} (ht : Tryz.prog.underlying t = some .string) {u : Value} {x : DataW H × List MemPlace} (h : DataW.trod enc Tryz.prog w base spare held fuel t [u] = some x) : ∃ n, u = .string n := by
 obtain ⟨n, e, _⟩ := DataW.trod_string ht h
 simp at e
 exact ⟨n, e⟩
theorem tasks_of {fuel : Nat} {v : Value} {x : DataW H × List MemPlace}
  (h : DataW.trod enc Tryz.prog w base spare held fuel 22 [v] = some x) :
  ∃ a n c tk, v = .slice a n c ∧ TksIn w.heap.size w a n tk ∧ n ≤ 9223372036854775807 ∧ n ≤ c := by
 rcases open_slice_fields Tryz.underlying22 Tryz.underlying41 (by kernel_rfl) (by kernel_rfl) h with ⟨hcs, _⟩ | ⟨a, l, c, m, D, Pl, hcs, _, hl, hm, hmm, _, hat⟩
 ·simp at hcs; subst hcs
  exact ⟨none, 0, 0, fun _ => ⟨⟨#[]⟩, 0, 0, 0, 0, 0, 0, 0, 0, 0, 0⟩, rfl, fun h => by omega, by omega, by omega⟩
 ·simp at hcs; subst hcs
  have hlm : l ≤ m := by rw [hmm]; split <;> omega
  have hx : ∀ i, ∃ t : Tk, i < l → ∀ (k : Nat) (u : Value), (tkc t)[k]? = some u → w.cell? (a.add (i * 11 + k)) = some u := by
   intro i
   by_cases hi : i < l
   ·obtain ⟨ys, nn, _, _, _, hf⟩ := hat i (by omega)
    obtain ⟨v0, y0, c0, _, t0⟩ := hf 0 _ rfl
    obtain ⟨v1, y1, c1, _, t1⟩ := hf 1 _ rfl
    obtain ⟨v2, y2, c2, _, t2⟩ := hf 2 _ rfl
    obtain ⟨v3, y3, c3, _, t3⟩ := hf 3 _ rfl
    obtain ⟨v4, y4, c4, _, t4⟩ := hf 4 _ rfl
    obtain ⟨v5, y5, c5, _, t5⟩ := hf 5 _ rfl
    obtain ⟨v6, y6, c6, _, t6⟩ := hf 6 _ rfl
    obtain ⟨v7, y7, c7, _, t7⟩ := hf 7 _ rfl
    obtain ⟨v8, y8, c8, _, t8⟩ := hf 8 _ rfl
    obtain ⟨v9, y9, c9, _, t9⟩ := hf 9 _ rfl
    obtain ⟨v10, y10, c10, _, t10⟩ := hf 10 _ rfl
    obtain ⟨n0, e0⟩ := str_one (by kernel_rfl) t0
    obtain ⟨n1, e1⟩ := int_one t1
    obtain ⟨n2, e2⟩ := int_one t2
    obtain ⟨n3, e3⟩ := int_one t3
    obtain ⟨n4, e4⟩ := int_one t4
    obtain ⟨n5, e5⟩ := int_one t5
    obtain ⟨n6, e6⟩ := int_one t6
    obtain ⟨n7, e7⟩ := int_one t7
    obtain ⟨n8, e8⟩ := int_one t8
    obtain ⟨n9, e9⟩ := int_one t9
    obtain ⟨n10, e10⟩ := int_one t10
    subst e0 e1 e2 e3 e4 e5 e6 e7 e8 e9 e10
    refine ⟨⟨n0, n1, n2, n3, n4, n5, n6, n7, n8, n9, n10⟩, fun _ k u hu => ?_⟩
    match k, hu with
    | 0, hu => cases hu; exact c0
    | 1, hu => cases hu; exact c1
    | 2, hu => cases hu; exact c2
    | 3, hu => cases hu; exact c3
    | 4, hu => cases hu; exact c4
    | 5, hu => cases hu; exact c5
    | 6, hu => cases hu; exact c6
    | 7, hu => cases hu; exact c7
    | 8, hu => cases hu; exact c8
    | 9, hu => cases hu; exact c9
    | 10, hu => cases hu; exact c10
    | k + 11, hu => cases hu
   ·exact ⟨⟨⟨#[]⟩, 0, 0, 0, 0, 0, 0, 0, 0, 0, 0⟩, fun h => absurd h hi⟩
  obtain ⟨f, hf⟩ := Classical.skolem.1 hx
  refine ⟨some a, l, c, f, rfl, fun h0 => ?_, by unfold maxLen at hm; omega, hl⟩
  obtain ⟨b, off, spot⟩ := a
  have hc0 := hf 0 h0 0 _ rfl
  have hsp := World.cell?_spot hc0
  simp only [Addr.add, Nat.zero_mul, Nat.zero_add, if_true] at hsp
  have : spot = none := hsp
  subst this
  refine ⟨b, off, rfl, block_lt hc0, fun j hj k u hu => ?_⟩
  have h1 := hf j hj k u hu
  rw [add_none] at h1
  rw [Nat.add_assoc]
  exact h1
theorem weightsAll_mem {P : Program} {e : TypeId} : ∀ {l : List (DataW H)} {d : DataW H}, d ∈ l → ∀ n ∈ d.weights P e, n ∈ DataW.weightsAll P e l
 | d' :: r, d, hd, n, hn => by
  simp only [DataW.weightsAll, List.mem_append]
  rcases List.mem_cons.1 hd with rfl | h
  ·exact Or.inl hn
  ·exact Or.inr (weightsAll_mem h n hn)
theorem Tryz.bytes79 : Tryz.prog.bytesOf 79 = 16 := by kernel_rfl
theorem reach_eq : reachBytes = 140737488351232 := rfl
theorem rels_of {fuel : Nat} {v : Value} {x : DataW H × List MemPlace}
  (h : DataW.trod enc Tryz.prog w base spare held fuel 53 [v] = some x) (hw : ∀ n ∈ DataW.weights Tryz.prog 53 x.1, n ≤ reachBytes) :
  ∃ a c, ∃ rs : List (Int × Int), v = .slice a rs.length c ∧ RelsIn w.heap.size w a rs ∧ rs.length ≤ 140737488355328 := by
 rcases open_slice_fields Tryz.underlying53 Tryz.underlying79 (by kernel_rfl) (by kernel_rfl) h with ⟨hcs, _⟩ | ⟨a, l, c, m, D, Pl, hcs, _, hl, hm, hmm, hxx, hat⟩
 ·simp at hcs; subst hcs
  exact ⟨none, 0, [], rfl, fun h => by simp at h, by simp⟩
 ·simp at hcs; subst hcs
  have hlm : l ≤ m := by rw [hmm]; split <;> omega
  have hwt := hw ((l + (m - l)) * Tryz.prog.bytesOf 79) (by rw [hxx]; simp [DataW.weights, Tryz.underlying53])
  rw [Tryz.bytes79, reach_eq] at hwt
  have hx : ∀ i, ∃ y : Int × Int, i < l → w.cell? (a.add (i * 2)) = some (.int .i64 y.1) ∧ w.cell? (a.add (i * 2 + 1)) = some (.int .i64 y.2) := by
   intro i
   by_cases hi : i < l
   ·obtain ⟨ys, nn, _, _, _, hf⟩ := hat i (by omega)
    obtain ⟨v0, y0, c0, _, t0⟩ := hf 0 _ rfl
    obtain ⟨v1, y1, c1, _, t1⟩ := hf 1 _ rfl
    obtain ⟨n0, e0⟩ := int_one t0
    obtain ⟨n1, e1⟩ := int_one t1
    subst e0 e1
    exact ⟨(n0, n1), fun _ => ⟨c0, c1⟩⟩
   ·exact ⟨(0, 0), fun h => absurd h hi⟩
  obtain ⟨f, hf⟩ := Classical.skolem.1 hx
  refine ⟨some a, c, (List.range l).map f, by simp, fun h0 => ?_, by simp; omega⟩
  have h0' : 0 < l := by simpa using h0
  obtain ⟨b, off, spot⟩ := a
  have hc0 := (hf 0 h0').1
  have hsp := World.cell?_spot hc0
  simp only [Addr.add, Nat.zero_mul, if_true] at hsp
  have : spot = none := hsp
  subst this
  refine ⟨b, off, rfl, block_lt hc0, fun j hj => ?_⟩
  have hj' : j < l := by simpa using hj
  have h1 := hf j hj'
  rw [add_none, add_none] at h1
  simp only [List.getElem_map, List.getElem_range]
  exact ⟨h1.1, h1.2⟩
theorem inputs_of {fuel : Nat} {v : Value} {x : DataW H × List MemPlace}
  (h : DataW.trod enc Tryz.prog w base spare held fuel 34 [v] = some x) (hw : ∀ n ∈ DataW.weights Tryz.prog 34 x.1, n ≤ reachBytes) :
  ∃ a c, ∃ l : List (List (Int × Int) × Bool), v = .slice a l.length c ∧ InsIn w.heap.size w a l ∧ l.length ≤ 9223372036854775807 ∧ ∀ x ∈ l, x.1.length ≤ 140737488355328 := by
 rcases open_slice_fields Tryz.underlying34 Tryz.underlying55 (by kernel_rfl) (by kernel_rfl) h with ⟨hcs, _⟩ | ⟨a, l, c, m, D, Pl, hcs, _, hl, hm, hmm, hxx, hat⟩
 ·simp at hcs; subst hcs
  exact ⟨none, 0, [], rfl, fun h => by simp at h, by simp, by simp⟩
 ·simp at hcs; subst hcs
  have hlm : l ≤ m := by rw [hmm]; split <;> omega
  have hx : ∀ i, ∃ y : List (Int × Int) × Bool, y.1.length ≤ 140737488355328 ∧ (i < l → ∃ aj cj, w.cell? (a.add (i * 2)) = some (.slice aj y.1.length cj) ∧ w.cell? (a.add (i * 2 + 1)) = some (.bool y.2) ∧ RelsIn w.heap.size w aj y.1) := by
   intro i
   by_cases hi : i < l
   ·obtain ⟨ys, nn, hD, _, _, hf⟩ := hat i (by omega)
    obtain ⟨v0, y0, c0, hy0, t0⟩ := hf 0 _ rfl
    obtain ⟨v1, y1, c1, _, t1⟩ := hf 1 _ rfl
    obtain ⟨aj, cj, rs, e0, i0, l0⟩ := rels_of t0 (fun n hn => by
     refine hw n ?_
     rw [hxx]
     simp only [DataW.weights, Tryz.underlying34, List.mem_cons, List.mem_append]
     refine Or.inr (Or.inl (weightsAll_mem (d := D i) (List.mem_map.2 ⟨i, List.mem_range.2 hi, rfl⟩) n ?_))
     rw [hD]
     simp only [DataW.weights, Tryz.underlying55]
     exact DataW.weights_mem_each (j := 0) (t := 53) (d := y0.1) rfl (by rw [List.getElem?_map, hy0]; rfl) n hn)
    obtain ⟨n1, e1⟩ := bool_one t1
    subst e0 e1
    exact ⟨(rs, n1), l0, fun _ => ⟨aj, cj, c0, c1, i0⟩⟩
   ·exact ⟨([], false), by simp, fun h => absurd h hi⟩
  obtain ⟨f, hf⟩ := Classical.skolem.1 hx
  refine ⟨some a, c, (List.range l).map f, by simp, fun h0 => ?_, by simp; unfold maxLen at hm; omega, fun x hx => ?_⟩
  ·have h0' : 0 < l := by simpa using h0
   obtain ⟨b, off, spot⟩ := a
   obtain ⟨_, _, hc0, _⟩ := (hf 0).2 h0'
   have hsp := World.cell?_spot hc0
   simp only [Addr.add, Nat.zero_mul, if_true] at hsp
   have : spot = none := hsp
   subst this
   refine ⟨b, off, rfl, block_lt hc0, fun j hj => ?_⟩
   have hj' : j < l := by simpa using hj
   obtain ⟨aj, cj, h1, h2, h3⟩ := (hf j).2 hj'
   rw [add_none] at h1 h2
   simp only [List.getElem_map, List.getElem_range]
   exact ⟨aj, cj, h1, h2, h3⟩
  ·obtain ⟨i, _, rfl⟩ := List.mem_map.1 hx
   exact (hf i).1
theorem Tryz.one24 : oneCellFields Tryz.prog #[{ name := "Burst", type := 3, offset := 0, embedded := false, tag := "", pkgPath := "", byteOffset := 0 }, { name := "Tasks", type := 22, offset := 1, embedded := false, tag := "", pkgPath := "", byteOffset := 8 }] = true := by kernel_rfl
theorem Tryz.cells24 : Tryz.prog.cellsOf 24 = 2 := by kernel_rfl
set_option maxRecDepth 100000 in
theorem set_of {r : Reach} {b0 : Nat} {v : Value} {d : DataW H} {p : List MemPlace} (hv : Value.okWide Tryz.prog w r b0 24 v) (h : DataW.Trod enc Tryz.prog w base spare held 24 v d p) :
  ∃ bu a n c tk, v = .agg #[.int .i64 bu, .slice a n c] ∧ TksIn w.heap.size w a n tk ∧ n ≤ 9223372036854775807 ∧ n ≤ c := by
 obtain ⟨v0, v1, y0, y1, m, rfl, _, _, h0, h1⟩ := open_agg2 (P := Tryz.prog) (t := 24) Tryz.underlying24 Tryz.one24 Tryz.cells24 hv h
 obtain ⟨bu, e0⟩ := int_one h0
 obtain ⟨a, n, c, tk, e1, i1, i2, i3⟩ := tasks_of h1
 subst e0 e1
 exact ⟨bu, a, n, c, tk, rfl, i1, i2, i3⟩
end
end
end Go.Proofs.YtnoahekcemfmcaaGreatDoor
