/- SlotKeeps: the walk. -/
import Derived.Test.YtaogdgbijjjpjaaSL8
import Derived.Test.YtaogdgbijjjpjaaHKeepsW
namespace Go.Proofs.Ytaogdgbijjjpjaa
open Go.RowKit
set_option linter.unusedVariables false

/-- A row that may be written, and is not the table's. -/
def Mine (w : World) (F : Nat → Prop) (lo hi : Nat) (a : Option Addr) (n : Nat) : Prop := 0 < n → ∃ g, a = some ⟨g, 0, none⟩ ∧ Wrt w g (n * 4) ∧ ¬ F g ∧ lo ≤ g ∧ g < hi
theorem Mine.keep {w w' : World} {F : Nat → Prop} {lo hi : Nat} {a : Option Addr} {n : Nat} (h : Mine w F lo hi a n) (hb : Below w.heap.size w w') (hh : hi ≤ w.heap.size) : Mine w' F lo hi a n := fun hn => by
  obtain ⟨g, e, hw, hF, hg, hlt⟩ := h hn
  exact ⟨g, e, hw.keep (Fr.of_below (S := fun _ => False) hb) (by omega) (by simp), hF, hg, hlt⟩
theorem Mine.of_own {w' : World} {F : Nat → Prop} {base c n lo : Nat} {a : Option Addr} {l : List Q} (ho : w'.ownsRow base 59 4 (.slice a n c) n (l.flatMap qc)) (hn : n = l.length) (hF : ∀ k, F k → k < base) (hb : lo ≤ base) : Mine w' F lo w'.heap.size a n := fun hpos => by
  obtain ⟨g, cap, hv, hg0, hg, _, hcell, hfz⟩ := ownsRow_cells ho hpos
  simp only [Value.slice.injEq] at hv
  obtain ⟨rfl, _, _⟩ := hv
  refine ⟨g, rfl, ⟨fun o ho' => ?_, hfz⟩, fun hk => by have := hF g hk; omega, by omega, hg⟩
  exact ⟨_, hcell o _ (List.getElem?_eq_getElem (by rw [flat_length]; omega))⟩

set_option maxHeartbeats 8000000 in
set_option maxRecDepth 100000 in
theorem skeeps_walk (a0 : Option Addr) (n0 c0 : Nat) (ys : List (Int × Int × Int × Int × Int × Int)) (w : World) (h1 : A6In w.heap.size w a0 n0 ys) (l1 : n0 ≤ 9223372036854775807) :
    Calls Try.prog 11 #[.slice a0 n0 c0] w fun e w' => e = .returned (.bool true) ∧ Below w.heap.size w w' := by
  have hys := h1.1
  by_cases hbig : 40 < n0
  · go_enter Try.func11, Try.ntmps11
    go_wp2_with fail
    refine (sawake_any _).mono ?_
    rintro e w1 ⟨rfl, hb1⟩
    go_wp2_with fail
    refine (sawake_any _).mono ?_
    rintro e w2 ⟨rfl, hb2⟩
    go_wp2_with fail
    go_ret
    exact ⟨rfl, hb1.trans (hb2.mono hb1.size)⟩
  · have hn0 : n0 ≤ 40 := by omega
    have H1 := Lib.hid h1
    clear h1
    go_enter Try.func11, Try.ntmps11
    go_wp2_with fail
    refine (sawake_any _).mono ?_
    rintro e w1 ⟨rfl, hb1⟩
    go_wp2_with fail
    refine (few_any w.heap.size a0 n0 c0 ys w1 (H1.out.keep hb1) hb1.size l1).mono ?_
    rintro e w2 ⟨⟨bb, rfl, _⟩, hb2⟩
    have hb02 := hb1.trans (hb2.mono hb1.size)
    cases bb
    · go_wp2_with fail
      refine (sawake_any _).mono ?_
      rintro e w3 ⟨rfl, hb3⟩
      go_wp2_with fail
      go_ret
      exact ⟨rfl, hb02.trans (hb3.mono hb02.size)⟩
    · go_wp2_with fail
      refine (SO.new hb02 256 (by omega) (by omega)).mono ?_
      rintro e w3 ⟨p, F3, rfl, h3, _, _⟩
      clear hb1 hb2 hb02
      go_wp2_with fail
      go_loopw [5] (fun i wr => ∃ (j : Nat) (m : List Q) (F : Nat → Prop), j ≤ n0 ∧ i = .int .i64 j ∧ SO w wr p 256 F m) (fun i _ => n0 - (intOf i).toNat)
      case atStart => exact ⟨0, [], F3, Nat.zero_le _, rfl, h3⟩
      case round =>
        clear h3
        obtain ⟨j, m, F, hj, rfl, hW⟩ := hrel
        by_cases hlt : j < n0
        · obtain ⟨b, off, rfl, hbB, hcc⟩ := (H1.out.keep hW.bel).2 (by omega)
          have HA : Hid (∀ W, Below w.heap.size w W → A6 W b (off + j * 6) (ys[j]'(by omega)) ∧ Below w.heap.size w W) := fun W hb => by
            obtain ⟨b', off', e, _, hc⟩ := (H1.out.keep hb).2 (by omega)
            cases e
            exact ⟨hc j (by omega), hb⟩
          generalize (ys[j]'(by omega)) = act at *
          obtain ⟨x0, x1, x2, x3, x4, x5⟩ := act
          have hjI : (j : Int) < (n0 : Int) := by omega
          have hbr := hW.bel
          have HR := Lib.hid ((hW.below (bel_drew (Below.refl wr.heap.size wr))).reserve (id := x1) (g := x2) (len := x3) (f := x4) (t := x5) (x := (resM 256 m x1 x2 x3 x4 x5).1) (y := (resM 256 m x1 x2 x3 x4 x5).2.1) (l' := (resM 256 m x1 x2 x3 x4 x5).2.2) rfl)
          clear hcc hW
          go_upto_region 9 with fail
          go_region_held3 (fun w' => (w'.cell? ⟨b, off + j * 6 + 1, none⟩ = some (.int .i64 x1) ∧ w'.cell? ⟨b, off + j * 6 + 2, none⟩ = some (.int .i64 x2) ∧ w'.cell? ⟨b, off + j * 6 + 3, none⟩ = some (.int .i64 x3) ∧ w'.cell? ⟨b, off + j * 6 + 4, none⟩ = some (.int .i64 x4) ∧ w'.cell? ⟨b, off + j * 6 + 5, none⟩ = some (.int .i64 x5)) ∧ Below w.heap.size w w')
            ((first | (obtain ⟨⟨z0, z1, z2, z3, z4, z5⟩, z9⟩ := HA.out _ (bel_drew hbr); exact ⟨⟨z1, z2, z3, z4, z5⟩, z9⟩) | (obtain ⟨⟨z0, z1, z2, z3, z4, z5⟩, z9⟩ := HA.out _ (by assumption); exact ⟨⟨z1, z2, z3, z4, z5⟩, z9⟩)))
            ((go_at_call 33; refine Calls.mono HR.out ?_; rintro e w4 ⟨rfl, F4, h4, _, _⟩; have hP4 := h4.bel))
          have H4 := Lib.hid h4
          clear h4
          go_wp2_with fail
          go_roundw
          case rel => exact ⟨j + 1, _, F4, by omega, by go_num, H4.out⟩
          case measure => simp [intOf]; omega
        · have HAll := Lib.hid hW.all
          have HW := Lib.hid hW
          clear hW
          go_wp2_with fail
          refine HAll.out.mono ?_
          rintro e w4 ⟨a, c, l4, rfl, hp4, hs4, hown, hb4⟩
          have h4 := HW.out.below hb4
          have hB4 := HW.out.bel.size
          have hl4 : l4.length ≤ 256 := by rw [hp4.length_eq]; exact HW.out.len
          have Hx := Lib.hid (Mine.of_own (F := F) (lo := w.heap.size) hown rfl (fun k hk => (HW.out.a.flt k hk).1) hB4)
          have H4 := Lib.hid h4
          have Hown := Lib.hid hown
          have HP4 := Lib.hid hp4
          have HS4 := Lib.hid hs4
          have hb44 := hb4.size
          clear h4 hown HAll HW hp4 hs4 hb4
          go_wp2_with (at_builtin; refine wpList_copyS (B := wr.heap.size) (w := w4) rfl _ _ rfl w4.heap.size l4.length c a l4 rfl rfl rfl rfl Hown.out rfl (by omega) ?_)
          intro v5 w5 hown5 hb5
          obtain ⟨a5, c5, rfl⟩ := ownsRow_form hown5
          have h5 := H4.out.below hb5
          have Hx5 : Hid (Mine w5 F w.heap.size w4.heap.size a l4.length) := Hx.out.keep hb5 (Nat.le_refl _)
          have hs5 : w4.heap.size ≤ w5.heap.size := hb5.size
          clear Hx Hown hb5 H4
          go_wp2_with fail
          go_loopw [8] (fun i wx => ∃ q : Nat, q ≤ l4.length ∧ i = .int .i64 q ∧ SO w wx p 256 F m ∧ Hid (Mine wx F w.heap.size w4.heap.size a l4.length) ∧ Hid (wx.ownsRow w4.heap.size 59 4 (.slice a5 l4.length c5) l4.length (l4.flatMap qc))) (fun i _ => l4.length - (intOf i).toNat)
          case atStart => exact ⟨0, Nat.zero_le _, rfl, h5, Hx5, hown5⟩
          case round =>
            clear h5 Hx5 hown5 hs5
            obtain ⟨q, hq, rfl, hWq, hx, hoq⟩ := hrel
            by_cases hqx : q < l4.length
            · obtain ⟨g, rfl, hw, hFg, hgw, hg4⟩ := hx.out (by omega)
              obtain ⟨u0, cu0⟩ := hw.some (q * 4) (by omega)
              obtain ⟨u1, cu1⟩ := hw.some (q * 4 + 1) (by omega)
              obtain ⟨u2, cu2⟩ := hw.some (q * 4 + 2) (by omega)
              obtain ⟨u3, cu3⟩ := hw.some (q * 4 + 3) (by omega)
              have fz0 := hw.fz (q * 4)
              have fz1 := hw.fz (q * 4 + 1)
              have fz2 := hw.fz (q * 4 + 2)
              have fz3 := hw.fz (q * 4 + 3)
              have hw2 := Lib.hid ((((hw.set (q * 4) (.int .i64 (-7))).set (q * 4 + 1) (.int .i64 0)).set (q * 4 + 2) (.int .i64 0)).set (q * 4 + 3) (.int .i64 0))
              have hfr := fr_set4 wr g (q * 4) (.int .i64 (-7)) (.int .i64 0) (.int .i64 0) (.int .i64 0)
              have HW2 := Lib.hid (hWq.keep hfr (fun k hk e => hFg (by subst e; exact hk)) (hWq.bel.trans (hfr.below (by rintro i _ rfl; exact hgw) hWq.bel.size)))
              have ho2 := Lib.hid (ownsRow_keep (w' := (((wr.setCell ⟨g, q * 4, none⟩ (.int .i64 (-7))).setCell ⟨g, q * 4 + 1, none⟩ (.int .i64 0)).setCell ⟨g, q * 4 + 2, none⟩ (.int .i64 0)).setCell ⟨g, q * 4 + 3, none⟩ (.int .i64 0)) hoq.out fun k hk => hfr.block k (ownsRow_lt hoq.out k hk) (fun e => by have := ownsRow_block hoq.out k hk; omega))
              have hqI : (q : Int) < (l4.length : Int) := by omega
              clear hx hw hfr hWq hoq
              go_wp2_with fail
              go_roundw
              case rel => exact ⟨q + 1, by omega, by go_num, HW2.out, (by intro _; exact ⟨g, rfl, hw2.out, hFg, hgw, hg4⟩), ho2.out⟩
              case measure => simp [intOf]; omega
            · have HAt := Lib.hid (hWq.at_ 0)
              have HWq := Lib.hid hWq
              clear hWq hx
              go_wp2_with fail
              refine HAt.out.mono ?_
              rintro e w6 ⟨a6, c6, l6, rfl, hp6, _, hown6, hb6⟩
              have hl6 : (l6.filter fun x => !atOut 0 x).length ≤ 256 := Nat.le_trans (List.length_filter_le _ _) (by rw [hp6.length_eq]; exact HWq.out.len)
              obtain ⟨N6, hN6⟩ : ∃ N, (l6.filter fun x => !atOut 0 x).length = N := ⟨_, rfl⟩
              obtain ⟨L6, hL6⟩ : ∃ L, (l6.filter fun x => !atOut 0 x) = L := ⟨_, rfl⟩
              have hLN : L6.length = N6 := by rw [← hL6]; exact hN6
              rw [hL6] at hown6
              rw [hLN] at hown6
              rw [hN6] at hl6 ⊢
              have Hx6 := Lib.hid (Mine.of_own (F := F) (lo := wr.heap.size) hown6 hLN.symm (fun k hk => (HWq.out.a.flt k hk).1) (Nat.le_refl _))
              have h6 := HWq.out.below hb6
              have ho6 := Lib.hid (ownsRow_keep (w' := w6) hoq.out fun k hk => hb6.block k (ownsRow_lt hoq.out k hk))
              have Hlt : Hid (∀ k, (Value.slice a5 l4.length c5).ownBlock = some k → k < wr.heap.size) := fun k hk => ownsRow_lt hoq.out k hk
              have hBwr : w.heap.size ≤ wr.heap.size := HWq.out.bel.size
              clear hown6 hb6 hN6 hL6 hLN HAt HWq hoq hp6
              go_wp2_with fail
              go_loopw [10] (fun i wy => ∃ q : Nat, q ≤ N6 ∧ i = .int .i64 q ∧ SO w wy p 256 F m ∧ Hid (Mine wy F wr.heap.size w6.heap.size a6 N6) ∧ Hid (wy.ownsRow w4.heap.size 59 4 (.slice a5 l4.length c5) l4.length (l4.flatMap qc))) (fun i _ => N6 - (intOf i).toNat)
              case atStart => exact ⟨0, Nat.zero_le _, rfl, h6, Hx6.out, ho6.out⟩
              case round =>
                clear h6 Hx6 ho6
                obtain ⟨q2, hq2, rfl, hWy, hxy, hoy⟩ := hrel
                by_cases hqx2 : q2 < N6
                · obtain ⟨g, rfl, hw, hFg, hgw, hg4⟩ := hxy.out (by omega)
                  obtain ⟨u0, cu0⟩ := hw.some (q2 * 4) (by omega)
                  obtain ⟨u1, cu1⟩ := hw.some (q2 * 4 + 1) (by omega)
                  obtain ⟨u2, cu2⟩ := hw.some (q2 * 4 + 2) (by omega)
                  obtain ⟨u3, cu3⟩ := hw.some (q2 * 4 + 3) (by omega)
                  have fz0 := hw.fz (q2 * 4)
                  have fz1 := hw.fz (q2 * 4 + 1)
                  have fz2 := hw.fz (q2 * 4 + 2)
                  have fz3 := hw.fz (q2 * 4 + 3)
                  have hw2 := Lib.hid ((((hw.set (q2 * 4) (.int .i64 (-8))).set (q2 * 4 + 1) (.int .i64 0)).set (q2 * 4 + 2) (.int .i64 0)).set (q2 * 4 + 3) (.int .i64 0))
                  have hfr := fr_set4 wr g (q2 * 4) (.int .i64 (-8)) (.int .i64 0) (.int .i64 0) (.int .i64 0)
                  have HW2 := Lib.hid (hWy.keep hfr (fun k hk e => hFg (by subst e; exact hk)) (hWy.bel.trans (hfr.below (by rintro i _ rfl; omega) hWy.bel.size)))
                  have ho2 := Lib.hid (ownsRow_keep (w' := (((wr.setCell ⟨g, q2 * 4, none⟩ (.int .i64 (-8))).setCell ⟨g, q2 * 4 + 1, none⟩ (.int .i64 0)).setCell ⟨g, q2 * 4 + 2, none⟩ (.int .i64 0)).setCell ⟨g, q2 * 4 + 3, none⟩ (.int .i64 0)) hoy.out fun k hk => hfr.block k (ownsRow_lt hoy.out k hk) (fun e => by have := Hlt.out k hk; omega))
                  have hqI : (q2 : Int) < (N6 : Int) := by omega
                  clear hxy hw hfr hWy hoy
                  go_wp2_with fail
                  go_roundw
                  case rel => exact ⟨q2 + 1, by omega, by go_num, HW2.out, (by intro _; exact ⟨g, rfl, hw2.out, hFg, hgw, hg4⟩), ho2.out⟩
                  case measure => simp [intOf]; omega
                · have HAll2 : Hid (Calls Try.prog 37 #[.pointer (some ⟨p, 0, none⟩)] wr fun e w' => ∃ (a : Option Addr) (c : Nat), e = .returned (.slice a l4.length c) ∧ w'.ownsRow wr.heap.size 59 4 (.slice a l4.length c) l4.length (l4.flatMap qc) ∧ Below wr.heap.size wr w') := hWy.all.mono fun e w' ⟨a, c, l', he, hp, hs, ho, hb⟩ => by
                    have e2 := hWy.bd.uniq hp hs HP4.out HS4.out
                    subst e2
                    exact ⟨a, c, he, ho, hb⟩
                  have Hb := Lib.hid hWy.bel
                  clear hWy hxy
                  go_wp2_with fail
                  refine HAll2.out.mono ?_
                  rintro e w8 ⟨a8, c8, rfl, hown8, hb8⟩
                  have hq8 := qs_of_own hown8 rfl
                  have hq5 := qs_of_own (ownsRow_keep (w' := w8) hoy.out fun k hk => hb8.block k (ownsRow_lt hoy.out k hk)) rfl
                  have HM := Lib.hid (sameS_any w8.heap.size a8 a5 l4.length c8 c5 l4 w8 hq8 hq5 (Nat.le_refl _) (by omega))
                  have Hb8 := Lib.hid (Hb.out.trans (hb8.mono Hb.out.size))
                  clear hq8 hq5 hown8 hb8 hoy HAll2
                  go_wp2_with fail
                  refine HM.out.mono ?_
                  rintro e w9 ⟨rfl, hb9⟩
                  go_wp2_with fail
                  go_ret
                  exact ⟨rfl, Hb8.out.trans (hb9.mono Hb8.out.size)⟩
end Go.Proofs.Ytaogdgbijjjpjaa
