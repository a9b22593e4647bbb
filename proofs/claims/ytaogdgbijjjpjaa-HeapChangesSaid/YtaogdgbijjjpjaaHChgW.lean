/- HeapChanges: the walk. -/
import Derived.Test.YtaogdgbijjjpjaaTwoH
namespace Go.Proofs.Ytaogdgbijjjpjaa
open Go.RowKit
set_option linter.unusedVariables false

set_option maxHeartbeats 8000000 in
set_option maxRecDepth 100000 in
theorem hchg_walk (a0 : Option Addr) (n0 c0 : Nat) (ys : List Q) (k0 k1 k2 k3 : Int) (w : World) (h1 : QsIn w.heap.size w a0 n0 ys) (l1 : n0 ≤ 9223372036854775807) :
    Calls Try.prog 5 #[.slice a0 n0 c0, .agg #[.int .i64 k0, .int .i64 k1, .int .i64 k2, .int .i64 k3]] w fun e w' => e = .returned (.bool true) ∧ Below w.heap.size w w' := by
  have hbw := bel_alloc (Below.refl w.heap.size w) (.cells #[.int .i64 k0, .int .i64 k1, .int .i64 k2, .int .i64 k3] 23)
  by_cases hbig : 200 < n0
  · go_enter Try.func5, Try.ntmps5
    go_wp2_with fail
    refine (hawake_any _).mono ?_
    rintro e w1 ⟨rfl, hb1⟩
    go_wp2_with fail
    refine (hawake_any _).mono ?_
    rintro e w2 ⟨rfl, hb2⟩
    go_wp2_with fail
    go_ret
    exact ⟨rfl, hbw.trans ((hb1.trans (hb2.mono hb1.size)).mono hbw.size)⟩
  · have hn0 : n0 ≤ 200 := by omega
    have hK0 := C4.new w w.heap.size k0 k1 k2 k3 23 rfl
    have hy0 := h1.keep hbw
    go_enter Try.func5, Try.ntmps5
    go_wp2_with fail
    generalize w.alloc (.cells #[.int .i64 k0, .int .i64 k1, .int .i64 k2, .int .i64 k3] 23) = wb at *
    clear h1
    refine (hawake_any _).mono ?_
    rintro e w1 ⟨rfl, hb1⟩
    go_wp2_with fail
    refine (H2.new hb1).mono ?_
    rintro e w2 ⟨pa, Fa, rfl, hN⟩
    go_wp2_with fail
    refine hN.mono ?_
    rintro e w3 ⟨pb, Fb, rfl, h3⟩
    clear hN hb1
    go_wp2_with fail
    have HY := Lib.hid hy0
    have HK := Lib.hid hK0
    have HW := Lib.hid hbw
    clear hy0 hK0 hbw
    go_loopw [9] (fun si wr => ∃ (j : Nat) (m : List Q) (Fa Fb : Nat → Prop), j ≤ n0 ∧ si = .int .i64 j ∧ m.length ≤ j ∧ H2 wb wr pa pb Fa Fb m (chgM m (k0, k1, k2, k3))) (fun si _ => n0 - (intOf si).toNat)
    case atStart => exact ⟨0, [], Fa, Fb, Nat.zero_le _, rfl, Nat.le_refl _, h3⟩
    case round =>
      clear h3
      obtain ⟨j, m, Fa, Fb, hj, rfl, hmj, hW⟩ := hrel
      by_cases hlt : j < n0
      · obtain ⟨hyl, hy⟩ := HY.out.keep (hW.bel.mono HW.out.size)
        obtain ⟨b, off, rfl, hbB, hcc⟩ := hy (by omega)
        have hQ := hcc j (by omega)
        have HQ : Hid (∀ W, Below wb.heap.size wb W → Q4 W b (off + j * 4) ys[j]) := fun W hb => by
          obtain ⟨b', off', e, _, hc⟩ := (HY.out.keep (hb.mono HW.out.size)).2 (by omega)
          cases e
          exact hc j (by omega)
        generalize ys[j] = yj at *
        obtain ⟨x0, x1, x2, x3⟩ := yj
        clear hy hcc
        have hjI : (j : Int) < (n0 : Int) := by omega
        by_cases hany : (m.any fun x => x.2.2.2 == x3) = true
        · obtain ⟨c0, c1, c2, c3⟩ := hQ
          simp only at c0 c1 c2 c3
          have hA := Lib.hid (hW.pushA (a := x0) (b := x1) (c := x2) (d := x3) (r := 7) (m' := m) (pushM_some hany))
          clear hany hW
          go_wp2_with fail
          refine hA.out.mono ?_
          rintro e w3 ⟨rfl, F3, h3⟩
          go_wp2_with fail
          go_roundw
          case rel => exact ⟨j + 1, m, F3, Fb, by omega, by go_num, by omega, h3⟩
          case measure => simp [intOf]; omega
        · have hany' : (m.any fun x => x.2.2.2 == x3) = false := by cases h : (m.any fun x => x.2.2.2 == x3) with | false => rfl | true => exact absurd h hany
          have hs := hW.a.a.srt
          have hA := Lib.hid (hW.pushA (a := x0) (b := x1) (c := x2) (d := x3) (r := 0) (m' := insK (x0, x1, x2, x3) m) (pushM_new hany' (by omega)))
          have hlen : (insK (x0, x1, x2, x3) m).length = m.length + 1 := by rw [(insK_perm _ _).length_eq]; rfl
          have H1 : Hid (x3 = k3 → pushM 1024 (chgM m (k0, k1, k2, k3)) (k0, k1, k2, k3) = (0, chgM (insK (x0, x1, x2, x3) m) (k0, k1, k2, k3))) := fun e => chg_push_id hs hany' (by omega) e
          have H2' : Hid (¬ x3 = k3 → pushM 1024 (chgM m (k0, k1, k2, k3)) (x0, x1, x2, x3) = (0, chgM (insK (x0, x1, x2, x3) m) (k0, k1, k2, k3))) := fun e => chg_push_other hs hany' (by omega) e
          generalize insK (x0, x1, x2, x3) m = m2 at *
          obtain ⟨c0, c1, c2, c3⟩ := hQ
          simp only at c0 c1 c2 c3
          clear hany hany' hs hW
          go_wp2_with fail
          refine hA.out.mono ?_
          rintro e w4 ⟨rfl, F4, h4⟩
          clear c0 c1 c2 c3 hA
          obtain ⟨c0, c1, c2, c3⟩ := HQ.out _ h4.bel
          obtain ⟨u0, u1, u2, u3⟩ := HK.out.below h4.bel
          simp only at c0 c1 c2 c3
          have h5 := Lib.hid h4
          clear h4
          by_cases he : x3 = k3
          · have hE := Lib.hid (H1.out he)
            subst he
            go_wp2_with fail
            go_quiet (fail)
            go_wp2_with fail
            refine ((h5.out.below (bel_drewN (Below.refl _ _) _)).pushB hE.out).mono ?_
            rintro e w6 ⟨rfl, F6, h6⟩
            go_wp2_with fail
            go_roundw
            case rel => exact ⟨j + 1, m2, F4, F6, by omega, by go_num, by omega, h6⟩
            case measure => simp [intOf]; omega
          · have hE := Lib.hid (H2'.out he)
            go_wp2_with fail
            go_quiet (fail)
            go_wp2_with fail
            refine ((h5.out.below (bel_drewN (Below.refl _ _) _)).pushB hE.out).mono ?_
            rintro e w6 ⟨rfl, F6, h6⟩
            go_wp2_with fail
            go_roundw
            case rel => exact ⟨j + 1, m2, F4, F6, by omega, by go_num, by omega, h6⟩
            case measure => simp [intOf]; omega
      · have hC := Lib.hid (hW.changeA (a := k0) (b := k1) (c := k2) (d := k3) rfl rfl)
        obtain ⟨u0, u1, u2, u3⟩ := HK.out.below hW.bel
        generalize chgM m (k0, k1, k2, k3) = mm at *
        clear hW
        go_wp2_with fail
        refine hC.out.mono ?_
        rintro e w4 ⟨rfl, h4, _⟩
        have hml : mm.length ≤ 1024 := h4.a.a.len.1
        have HD := Lib.hid (filter_one h4.a.a.ids k3)
        have hS := Lib.hid h4.sortA
        clear u0 u1 u2 u3 h4 hC
        go_wp2_with fail
        refine hS.out.mono ?_
        rintro e w5 ⟨ax, cx, rfl, hx5, h5, _⟩
        have hL := Lib.hid (hlen_m h5.a.a)
        have hR := Lib.hid (h5.removeA (d := k3) rfl rfl)
        obtain ⟨u0, u1, u2, u3⟩ := HK.out.below h5.bel
        have hx5' := Lib.hid hx5
        clear hx5 h5 hS
        go_wp2_with fail
        refine hL.out.mono ?_
        rintro e w5' ⟨rfl, rfl⟩
        go_wp2_with fail
        refine hR.out.mono ?_
        rintro e w6 ⟨rfl, h6, hf6⟩
        have hx6 := Lib.hid (hx5'.out.keepA hf6)
        generalize hmf : (mm.filter fun x => !(x.2.2.2 == k3)) = mf at *
        have hS := Lib.hid h6.sortB
        clear u0 u1 u2 u3 h6 hf6 hx5' hR hL
        go_wp2_with fail
        refine hS.out.mono ?_
        rintro e w7 ⟨ay, cy, rfl, hy7, h7, hb7⟩
        have hx7 := hx6.out.below hb7
        have hR := Lib.hid (h7.removeB (d := k3) rfl hmf)
        obtain ⟨u0, u1, u2, u3⟩ := HK.out.below h7.bel
        have hx7' := Lib.hid hx7
        have hy7' := Lib.hid hy7
        clear hx7 hy7 h7 hb7 hx6 hS
        go_wp2_with fail
        refine hR.out.mono ?_
        rintro e w8 ⟨rfl, h8, hf8⟩
        have hM := Lib.hid (same_apr (hx7'.out.keepB hf8) (hy7'.out.keepB hf8) hml)
        have h8' := Lib.hid h8
        clear hx7' hy7' hR h8 hf8 u0 u1 u2 u3
        go_wp2_with fail
        refine hM.out.mono ?_
        rintro e w9 ⟨rfl, hb9⟩
        have h9 := h8'.out.below hb9
        have hS := Lib.hid h9.sortA
        clear h8' hM hb9 h9
        go_wp2_with fail
        refine hS.out.mono ?_
        rintro e w10 ⟨az, cz, rfl, hx10, h10, _⟩
        have hS2 := Lib.hid h10.sortB
        have hx10' := Lib.hid hx10
        clear hx10 h10 hS
        go_wp2_with fail
        refine hS2.out.mono ?_
        rintro e w11 ⟨av, cv, rfl, hy11, h11, hb11⟩
        have hmf2 : mf.length ≤ 1024 := h11.a.a.len.1
        have hM := Lib.hid (same_apr (hx10'.out.below hb11) hy11 hmf2)
        have h11' := Lib.hid h11
        clear hx10' hS2 hy11 h11 hb11
        go_wp2_with fail
        refine hM.out.mono ?_
        rintro e w12 ⟨rfl, hb12⟩
        have h12 := h11'.out.below hb12
        have hL := Lib.hid (hlen_m h12.a.a)
        have Hb := Lib.hid h12.bel
        have hd := HD.out
        have hle : mf.length ≤ mm.length := by rw [← hmf]; exact List.length_filter_le _ _
        clear h11' hM hb12 h12
        generalize mf.length = nf at *
        generalize mm.length = nm at *
        go_wp2_with fail
        refine hL.out.mono ?_
        rintro e w13 ⟨rfl, rfl⟩
        have e1 : IntKind.i64.wrap ((nm : Int) - (nf : Int)) = (nm : Int) - (nf : Int) := IntWalk.i64_in _ (by omega)
        have e2 : decide ((nm : Int) - (nf : Int) ≤ 1) = true := by simp; omega
        go_wp2_with fail
        go_ret
        exact ⟨rfl, HW.out.trans (Hb.out.mono HW.out.size)⟩

theorem hchg_any (a0 : Option Addr) (n0 c0 : Nat) (ys : List Q) (k : Q) (w : World) (h1 : QsIn w.heap.size w a0 n0 ys) (l1 : n0 ≤ 9223372036854775807) :
    Calls Try.prog 5 #[.slice a0 n0 c0, qv k] w fun e w' => e = .returned (.bool true) ∧ Below w.heap.size w w' :=
  hchg_walk a0 n0 c0 ys k.1 k.2.1 k.2.2.1 k.2.2.2 w h1 l1
end Go.Proofs.Ytaogdgbijjjpjaa
