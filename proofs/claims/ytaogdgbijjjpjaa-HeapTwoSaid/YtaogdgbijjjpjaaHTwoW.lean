/- HeapTwo: the walk. -/
import Derived.Test.YtaogdgbijjjpjaaTwoH
namespace Go.Proofs.Ytaogdgbijjjpjaa
open Go.RowKit
set_option linter.unusedVariables false

def rot (l : List Q) (t : Nat) : List Q := l.drop t ++ l.take t
theorem rot_len (l : List Q) (t : Nat) : (rot l t).length = l.length := by unfold rot; simp; omega
theorem rot_perm (l : List Q) (t : Nat) : (rot l t).Perm l := by
  unfold rot
  refine List.perm_append_comm.trans ?_
  rw [List.take_append_drop]
theorem rot_at (l : List Q) (t i : Nat) (ht : t < l.length) (hi : i < l.length) : (rot l t)[i]'(by rw [rot_len]; exact hi) = l[(i + t) % l.length]'(Nat.mod_lt _ (by omega)) := by
  unfold rot
  rw [List.getElem_append]
  by_cases h : i + t < l.length
  · rw [dif_pos (by simp; omega), List.getElem_drop]
    congr 1
    rw [Nat.mod_eq_of_lt h]; omega
  · rw [dif_neg (by simp; omega), List.getElem_take]
    congr 1
    rw [List.length_drop, Nat.mod_eq_sub_mod (by omega), Nat.mod_eq_of_lt (by omega)]
    omega
theorem nod_any {zs m : List Q} {j : Nat} (hn : (zs.map (·.2.2.2)).Nodup) (hj : j < zs.length) (hp : m.Perm (zs.take j)) : (m.any fun x => x.2.2.2 == zs[j].2.2.2) = false := by
  rw [hp.any_eq]
  refine List.any_eq_false.2 fun x hx => ?_
  obtain ⟨i, hi, e⟩ := List.mem_iff_getElem.1 hx
  rw [List.length_take] at hi
  rw [List.getElem_take] at e
  have h := (List.pairwise_iff_getElem.1 hn) i j (by simp; omega) (by simp; omega) (by omega)
  rw [List.getElem_map, List.getElem_map] at h
  subst e
  simpa using h
theorem push_step {zs m : List Q} {j : Nat} (hn : (zs.map (·.2.2.2)).Nodup) (hj : j < zs.length) (hl : j < 1024) (hp : m.Perm (zs.take j)) :
    pushM 1024 m zs[j] = (0, insK zs[j] m) ∧ (insK zs[j] m).Perm (zs.take (j + 1)) := by
  refine ⟨pushM_new (nod_any hn hj hp) (by rw [hp.length_eq, List.length_take]; omega), ?_⟩
  refine (insK_perm _ _).trans ?_
  rw [List.take_succ_eq_append_getElem hj]
  exact (hp.cons _).trans (List.perm_append_comm (l₁ := [zs[j]]))
theorem nod_of {zs : List Q} (h : ∀ i (hi : i < zs.length), ∀ k (hk : k < i), zs[k].2.2.2 ≠ zs[i].2.2.2) : (zs.map (·.2.2.2)).Nodup := by
  refine List.pairwise_iff_getElem.2 fun i j hi hj hij => ?_
  rw [List.getElem_map, List.getElem_map]
  exact h j (by simpa using hj) i hij

theorem C4.fr {F : Nat → Prop} {w w' : World} {b : Nat} {x0 x1 x2 x3 : Int} (h : C4 w b x0 x1 x2 x3) (hf : Fr F w w') (hF : ¬ F b) : C4 w' b x0 x1 x2 x3 :=
  ⟨(hf.cell (p := ⟨b, 0, none⟩) (block_lt h.c0) hF).trans h.c0, (hf.cell (p := ⟨b, 1, none⟩) (block_lt (a := ⟨b, 0, none⟩) h.c0) hF).trans h.c1, (hf.cell (p := ⟨b, 2, none⟩) (block_lt (a := ⟨b, 0, none⟩) h.c0) hF).trans h.c2, (hf.cell (p := ⟨b, 3, none⟩) (block_lt (a := ⟨b, 0, none⟩) h.c0) hF).trans h.c3⟩

set_option maxHeartbeats 8000000 in
set_option maxRecDepth 100000 in
theorem htwo_walk (a0 : Option Addr) (n0 c0 : Nat) (ys : List Q) (t : Int) (w : World) (h1 : QsIn w.heap.size w a0 n0 ys) (l1 : n0 ≤ 9223372036854775807) (rt : (Lit.int .u8 t).wf = true) :
    Calls Try.prog 8 #[.slice a0 n0 c0, .int .u8 t] w fun e w' => e = .returned (.bool true) ∧ Below w.heap.size w w' := by
  have ht : 0 ≤ t ∧ t ≤ 255 := by
    simp [Lit.wf] at rt
    have e1 : IntKind.u8.min = 0 := rfl
    have e2 : IntKind.u8.max = 255 := rfl
    omega
  obtain ⟨t0, t1⟩ := ht
  clear rt
  by_cases hz : n0 = 0
  · have hz0 : (n0 : Int) = 0 := by omega
    go_enter Try.func8, Try.ntmps8
    go_wp2_with fail
    refine (hawake_any _).mono ?_
    rintro e w1 ⟨rfl, hb1⟩
    go_wp2_with fail
    refine (hawake_any _).mono ?_
    rintro e w2 ⟨rfl, hb2⟩
    go_wp2_with fail
    go_ret
    exact ⟨rfl, hb1.trans (hb2.mono hb1.size)⟩
  by_cases hbig : 200 < n0
  · go_enter Try.func8, Try.ntmps8
    go_wp2_with fail
    refine (hawake_any _).mono ?_
    rintro e w1 ⟨rfl, hb1⟩
    go_wp2_with fail
    refine (hawake_any _).mono ?_
    rintro e w2 ⟨rfl, hb2⟩
    go_wp2_with fail
    go_ret
    exact ⟨rfl, hb1.trans (hb2.mono hb1.size)⟩
  · have hn0 : n0 ≤ 200 := by omega
    have hz1 : ((n0 : Int) == 0) = false := by simp; omega
    have hz2 : decide (200 < (n0 : Int)) = false := by simp; omega
    have hyl := h1.1
    go_enter Try.func8, Try.ntmps8
    go_wp2_with fail
    refine (hawake_any _).mono ?_
    rintro e w1 ⟨rfl, hb1⟩
    go_wp2_with fail
    refine (H2.new hb1).mono ?_
    rintro e w2 ⟨pa, Fa, rfl, hN⟩
    go_wp2_with fail
    refine hN.mono ?_
    rintro e w3 ⟨pb, Fb, rfl, h3⟩
    clear hN hb1
    go_wp2_with fail
    have HY := Lib.hid h1
    clear h1
    go_loopw [9] (fun si wr => ∃ (j : Nat), j ≤ n0 ∧ si = .int .i64 j ∧ H2 w wr pa pb Fa Fb [] [] ∧ Hid (∀ i (hi : i < ys.length), i < j → ∀ k (hk : k < i), ys[k].2.2.2 ≠ ys[i].2.2.2)) (fun si _ => n0 - (intOf si).toNat)
    case atStart => exact ⟨0, Nat.zero_le _, rfl, h3, fun i _ hi => by omega⟩
    case round =>
      clear h3
      obtain ⟨j, hj, rfl, hW, HD⟩ := hrel
      by_cases hlt : j < n0
      · have hjI : (j : Int) < (n0 : Int) := by omega
        go_wp2_with fail
        go_loopw [10] (fun sk wx => ∃ (k : Nat), k ≤ j ∧ sk = .int .i64 k ∧ H2 w wx pa pb Fa Fb [] [] ∧ Hid (∀ k' (hk : k' < ys.length), k' < k → ys[k'].2.2.2 ≠ (ys[j]'(by omega)).2.2.2)) (fun sk _ => j - (intOf sk).toNat)
        case atStart => exact ⟨0, Nat.zero_le _, rfl, hW, fun k' _ hk => by omega⟩
        case round =>
          clear hW
          obtain ⟨k, hk, rfl, hX, HE⟩ := hrel
          by_cases hkj : k < j
          · obtain ⟨b, off, rfl, hbB, hcc⟩ := (HY.out.keep hX.bel).2 (by omega)
            have c3 := (hcc j (by omega)).c3
            have d3 := (hcc k (by omega)).c3
            have HN : Hid (ys[k].2.2.2 ≠ ys[j].2.2.2 → ∀ k' (hk : k' < ys.length), k' < k + 1 → ys[k'].2.2.2 ≠ (ys[j]'(by omega)).2.2.2) := by
              intro h k' hk' hlt'
              rcases Nat.lt_or_ge k' k with h' | h'
              · exact HE.out k' hk' h'
              · obtain rfl : k' = k := by omega
                exact h
            have hkI : (k : Int) < (j : Int) := by omega
            have hkn : (k : Int) < (n0 : Int) := by omega
            generalize ys[j].2.2.2 = y3 at *
            generalize ys[k].2.2.2 = x3 at *
            clear hcc HE
            have hX' := Lib.hid hX
            clear hX
            by_cases he : x3 = y3
            · subst he
              clear HN
              go_wp2_with fail
              go_quiet (fail)
              go_wp2_with fail
              go_ret
              exact ⟨rfl, hX'.out.bel.trans ⟨rfl, rfl, rfl, Nat.le_refl _, fun _ _ => rfl⟩⟩
            · have HN' := Lib.hid (HN.out he)
              clear HN
              go_wp2_with fail
              go_quiet (fail)
              go_wp2_with fail
              go_roundw
              case rel => exact ⟨k + 1, by omega, by go_num, hX'.out.below (bel_drewN (Below.refl _ _) _), HN'.out⟩
              case measure => simp [intOf]; omega
          · obtain rfl : k = j := by omega
            have hX' := Lib.hid hX
            clear hX
            go_wp2_with fail
            go_roundw
            case rel => exact ⟨k + 1, by omega, by go_num, hX'.out, fun i hi hlt' k' hk' => by
              rcases Nat.lt_or_ge i k with h' | h'
              · exact HD.out i hi h' k' hk'
              · obtain rfl : i = k := by omega
                exact HE.out k' (by omega) hk'⟩
            case measure => simp [intOf]; omega
      · have HNod : Hid ((ys.map (·.2.2.2)).Nodup) := nod_of fun i hi k hk => HD.out i hi (by omega) k hk
        clear HD
        have hcv : IntKind.i64.wrap t = t := IntWalk.i64_in _ (by omega)
        obtain ⟨tt, htt⟩ : ∃ tt : Nat, t.tmod (n0 : Int) = (tt : Int) := ⟨(t.tmod (n0 : Int)).toNat, by have := Int.tmod_nonneg (n0 : Int) t0; omega⟩
        have htn : tt < n0 := by
          have := Int.tmod_lt_of_pos t (b := (n0 : Int)) (by omega)
          omega
        have hwt : IntKind.i64.wrap (tt : Int) = (tt : Int) := IntWalk.i64_in _ (by omega)
        have hnz : (n0 : Int) ≠ 0 := by omega
        have HRot : Hid (((rot ys tt).map (·.2.2.2)).Nodup) := by
          show List.Nodup _
          rw [((rot_perm ys tt).map (·.2.2.2)).nodup_iff]
          exact HNod.out
        go_wp2_with fail
        have hFa0 : Hid (H2 w wr pa pb Fa Fb [] []) := hW
        clear hW
        go_loopw [12] (fun si wx => ∃ (i : Nat) (ma mb : List Q) (Fa Fb : Nat → Prop), i ≤ n0 ∧ si = .int .i64 i ∧ H2 w wx pa pb Fa Fb ma mb ∧ Hid (ma.Perm (ys.take i)) ∧ Hid (mb.Perm ((rot ys tt).take i))) (fun si _ => n0 - (intOf si).toNat)
        case atStart => exact ⟨0, [], [], Fa, Fb, Nat.zero_le _, rfl, hFa0.out, by show List.Perm _ _; simp, by show List.Perm _ _; simp⟩
        case round =>
          clear hFa0
          obtain ⟨i, ma, mb, Fa, Fb, hi, rfl, hX, HA, HB⟩ := hrel
          by_cases hin : i < n0
          · obtain ⟨q, hq⟩ : ∃ q, q = (i + tt) % n0 := ⟨_, rfl⟩
            have hqn : q < n0 := by rw [hq]; exact Nat.mod_lt _ (by omega)
            have hQ : ∀ W, Below w.heap.size w W → ∃ b off, a0 = some ⟨b, off, none⟩ ∧ Q4 W b (off + i * 4) ys[i] ∧ Q4 W b (off + q * 4) ys[q] := fun W hb => by
              obtain ⟨b', off', e, _, hc⟩ := (HY.out.keep hb).2 (by omega)
              exact ⟨b', off', e, hc i (by omega), hc q (by omega)⟩
            obtain ⟨b, off, rfl, hq1, hq2⟩ := hQ wr hX.bel
            have HQ : Hid (∀ W, Below w.heap.size w W → Q4 W b (off + q * 4) ys[q]) := fun W hb => by
              obtain ⟨b', off', e, _, hc⟩ := hQ W hb
              cases e
              exact hc
            have PA := push_step (m := ma) HNod.out (j := i) (by omega) (by omega) HA.out
            have PB := push_step (m := mb) HRot.out (j := i) (by rw [rot_len]; omega) (by omega) HB.out
            rw [rot_at ys tt i (by omega) (by omega)] at PB
            have eq : ys[(i + tt) % ys.length]'(Nat.mod_lt _ (by omega)) = ys[q] := by congr 1; rw [hq, hyl]
            rw [eq] at PB
            generalize ys[q] = y at *
            generalize ys[i] = x at *
            obtain ⟨x0, x1, x2, x3⟩ := x
            obtain ⟨y0, y1, y2, y3⟩ := y
            obtain ⟨PA1, PA2⟩ := PA
            obtain ⟨PB1, PB2⟩ := PB
            have PA2' := Lib.hid PA2
            have PB2' := Lib.hid PB2
            have PB1' := Lib.hid PB1
            have hA := Lib.hid (hX.pushA PA1)
            obtain ⟨c0, c1, c2, c3⟩ := hq1
            simp only at c0 c1 c2 c3
            have hiI : (i : Int) < (n0 : Int) := by omega
            have Hq := Lib.hid hq
            clear hX PA1 PA2 PB1 PB2 hQ hq2 eq hq
            go_wp2_with fail
            refine hA.out.mono ?_
            rintro e w5 ⟨rfl, Fa5, h5⟩
            obtain ⟨d0, d1, d2, d3⟩ := HQ.out _ h5.bel
            simp only at d0 d1 d2 d3
            rw [Hq.out] at d0 d1 d2 d3
            have hB := Lib.hid (h5.pushB PB1'.out)
            have hm0 : 0 ≤ ((i : Int) + (tt : Int)) % (n0 : Int) := Int.emod_nonneg _ hnz
            have hm1 : ((i : Int) + (tt : Int)) % (n0 : Int) < (n0 : Int) := Int.emod_lt_of_pos _ (by omega)
            clear h5 hA c0 c1 c2 c3
            go_wp2_with fail
            refine hB.out.mono ?_
            rintro e w6 ⟨rfl, Fb6, h6⟩
            go_wp2_with fail
            go_roundw
            case rel => exact ⟨i + 1, _, _, Fa5, Fb6, by omega, by go_num, h6, PA2'.out, PB2'.out⟩
            case measure => simp [intOf]; omega
          · have eab : mb = ma := by
              have p1 := HA.out
              have p2 := HB.out
              rw [List.take_of_length_le (by omega)] at p1
              rw [List.take_of_length_le (by rw [rot_len]; omega)] at p2
              exact srt_uniq (p2.trans ((rot_perm ys tt).trans p1.symm)) hX.b.a.srt hX.a.a.srt
            have Hml : Hid (ma.length = n0) := by show _ = _; rw [HA.out.length_eq, List.length_take]; omega
            subst eab
            have hS := Lib.hid hX.sortA
            clear hX HA HB
            go_wp2_with fail
            refine hS.out.mono ?_
            rintro e w5 ⟨ax, cx, rfl, hx5, h5, _⟩
            have hS := Lib.hid h5.sortB
            have hx5' := Lib.hid hx5
            clear h5 hx5
            go_wp2_with fail
            refine hS.out.mono ?_
            rintro e w6 ⟨ay, cy, rfl, hy6, h6, hb6⟩
            have hM := Lib.hid (same_apr (hx5'.out.below hb6) hy6 (by have := Hml.out; omega))
            have h6' := Lib.hid h6
            clear hx5' hy6 h6 hb6 hS
            go_wp2_with fail
            refine hM.out.mono ?_
            rintro e w7 ⟨rfl, hb7⟩
            have h7 := Lib.hid (h6'.out.below hb7)
            clear h6' hM hb7
            go_wp2_with fail
            go_loopw [13] (fun si wz => ∃ (i : Nat) (m : List Q), si = .int .i64 i ∧ m.length + i = n0 ∧ H2 w wz pa pb Fa Fb m m) (fun si _ => n0 - (intOf si).toNat)
            case atStart => exact ⟨0, mb, rfl, by have := Hml.out; omega, h7.out⟩
            case round =>
              clear h7 Hml
              obtain ⟨i, m, rfl, hmi, hZ⟩ := hrel
              by_cases hin : i < n0
              · obtain ⟨x, r, rfl⟩ : ∃ x r, m = x :: r := by
                  cases m with
                  | nil => simp at hmi; omega
                  | cons x r => exact ⟨x, r, rfl⟩
                rw [List.length_cons] at hmi
                obtain ⟨x0, x1, x2, x3⟩ := x
                have hA := hZ.popA
                unfold peekM qv at hA
                simp only [List.tail_cons] at hA
                have HA := Lib.hid hA
                have hiI : (i : Int) < (n0 : Int) := by omega
                clear hZ hA
                go_wp2_with fail
                refine HA.out.mono ?_
                rintro e wp ⟨rfl, hp, _⟩
                have hbx : ¬ Fb wp.heap.size := fun hk => by have := (hp.b.a.flt _ hk).1; omega
                have hk := C4.new wp wp.heap.size x0 x1 x2 x3 23 rfl
                have hB := (hp.below (bel_alloc (Below.refl wp.heap.size wp) (.cells #[.int .i64 x0, .int .i64 x1, .int .i64 x2, .int .i64 x3] 23))).popB
                unfold peekM qv at hB
                simp only [List.tail_cons] at hB
                have HB := Lib.hid hB
                have HK := Lib.hid hk
                clear HA hB hk hp
                go_wp2_with fail
                generalize wp.alloc (.cells #[.int .i64 x0, .int .i64 x1, .int .i64 x2, .int .i64 x3] 23) = wq at *
                generalize wp.heap.size = bx at *
                refine HB.out.mono ?_
                rintro e wu ⟨rfl, hu, hfu⟩
                have hk' := (HK.out.fr hfu hbx).below (bel_alloc (Below.refl wu.heap.size wu) (.cells #[.int .i64 x0, .int .i64 x1, .int .i64 x2, .int .i64 x3] 23))
                obtain ⟨u0, u1, u2, u3⟩ := hk'
                obtain ⟨v0, v1, v2, v3⟩ := C4.new wu wu.heap.size x0 x1 x2 x3 23 rfl
                have hu' := Lib.hid (hu.below (bel_alloc (Below.refl wu.heap.size wu) (.cells #[.int .i64 x0, .int .i64 x1, .int .i64 x2, .int .i64 x3] 23)))
                clear HB HK hu hfu hbx
                go_wp2_with fail
                go_roundw
                case rel => exact ⟨i + 1, r, by go_num, by omega, hu'.out⟩
                case measure => simp [intOf]; omega
              · have hL := Lib.hid (hlen_m hZ.a.a)
                have hL2 := Lib.hid (hlen_m hZ.b.a)
                have hb := Lib.hid hZ.bel
                have hm0 : m.length = 0 := by omega
                rw [hm0] at hL hL2
                clear hZ
                go_wp2_with fail
                refine hL.out.mono ?_
                rintro e w8 ⟨rfl, rfl⟩
                go_wp2_with fail
                refine hL2.out.mono ?_
                rintro e w9 ⟨rfl, rfl⟩
                go_wp2_with fail
                go_ret
                exact ⟨rfl, hb.out⟩
end Go.Proofs.Ytaogdgbijjjpjaa
