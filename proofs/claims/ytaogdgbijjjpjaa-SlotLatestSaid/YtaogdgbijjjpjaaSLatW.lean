/- SlotLatest: the walk. -/
import Derived.Test.YtaogdgbijjjpjaaSLP
import Derived.Deep.RegionHeld3
import Derived.Deep.DrawnRows
namespace Go.Proofs.Ytaogdgbijjjpjaa
open Go.RowKit
set_option linter.unusedVariables false

set_option maxHeartbeats 8000000 in
set_option maxRecDepth 100000 in
theorem slatest_walk (a0 : Option Addr) (n0 c0 : Nat) (ys : List (Int × Int × Int × Int × Int × Int)) (G : Int) (w : World) (h1 : A6In w.heap.size w a0 n0 ys) (l1 : n0 ≤ 9223372036854775807) (r1 : (Lit.int .u8 G).wf = true) :
    Calls Try.prog 10 #[.slice a0 n0 c0, .int .u8 G] w fun e w' => e = .returned (.bool true) ∧ Below w.heap.size w w' := by
  have hys := h1.1
  have hG : 0 ≤ G ∧ G ≤ 255 := by
    simp [Lit.wf] at r1
    have e1 : IntKind.u8.min = 0 := rfl
    have e2 : IntKind.u8.max = 255 := rfl
    omega
  obtain ⟨G0, G1⟩ := hG
  clear r1
  by_cases hbig : 40 < n0
  · as_aux_lemma =>
    go_enter Try.func10, Try.ntmps10
    go_wp2_with fail
    refine (sawake_any _).mono ?_
    rintro e w1 ⟨rfl, hb1⟩
    go_wp2_with fail
    refine (sawake_any _).mono ?_
    rintro e w2 ⟨rfl, hb2⟩
    go_wp2_with fail
    go_ret
    exact ⟨rfl, hb1.trans (hb2.mono hb1.size)⟩
  by_cases hz0 : n0 = 0
  · subst hz0
    as_aux_lemma =>
    go_enter Try.func10, Try.ntmps10
    go_wp2_with fail
    refine (sawake_any _).mono ?_
    rintro e w1 ⟨rfl, hb1⟩
    go_wp2_with fail
    refine (sawake_any _).mono ?_
    rintro e w2 ⟨rfl, hb2⟩
    go_wp2_with fail
    go_ret
    exact ⟨rfl, hb1.trans (hb2.mono hb1.size)⟩
  have hn0 : n0 ≤ 40 := by omega
  have hnI : ((n0 : Int) == 0) = false := by simp; omega
  have H1 := Lib.hid h1
  clear h1
  go_enter Try.func10, Try.ntmps10
  go_wp2_with fail
  refine (sawake_any _).mono ?_
  rintro e w1 ⟨rfl, hb1⟩
  go_wp2_with fail
  refine (few_any w.heap.size a0 n0 c0 ys w1 (H1.out.keep hb1) hb1.size l1).mono ?_
  rintro e w2 ⟨⟨bb, rfl, _⟩, hb2⟩
  have hb02 := hb1.trans (hb2.mono hb1.size)
  cases bb
  · as_aux_lemma =>
    go_wp2_with fail
    refine (sawake_any _).mono ?_
    rintro e w3 ⟨rfl, hb3⟩
    go_wp2_with fail
    go_ret
    exact ⟨rfl, hb02.trans (hb3.mono hb02.size)⟩
  go_wp2_with fail
  refine (SO.new hb02 256 (by omega) (by omega)).mono ?_
  rintro e w3 ⟨p, F3, rfl, h3, _, _⟩
  have H3 := Lib.hid h3
  clear h3 hb1 hb2 hb02
  go_wp2_with fail
  go_loopw [7, 8, 9] (fun sd sa si wr => ∃ (j : Nat) (Z : List (A6T × Int)) (F : Nat → Prop), j ≤ n0 ∧ si = .int .i64 j ∧ Z.length ≤ j ∧ LX w wr p F Z sd sa) (fun _ _ si _ => n0 - (intOf si).toNat)
  case atStart => exact ⟨0, [], F3, Nat.zero_le _, rfl, Nat.le_refl _, LX.nil H3.out⟩
  case round =>
    clear H3
    obtain ⟨j, Z, F, hj, rfl, hZj, hX⟩ := hrel
    by_cases hlt : j < n0
    · obtain ⟨b, off, rfl, hbB, hcc⟩ := (H1.out.keep hX.o.bel).2 (by omega)
      have HA : Hid (∀ W, Below w.heap.size w W → A6 W b (off + j * 6) (ys[j]'(by omega)) ∧ Below w.heap.size w W) := fun W hb => by
        obtain ⟨b', off', e, _, hc⟩ := (H1.out.keep hb).2 (by omega)
        cases e
        exact ⟨hc j (by omega), hb⟩
      generalize (ys[j]'(by omega)) = act at *
      obtain ⟨x0, x1, x2, x3, x4, x5⟩ := act
      have hjI : (j : Int) < (n0 : Int) := by omega
      have hbr := hX.o.bel
      obtain ⟨rx, ry, L', hres⟩ : ∃ rx ry L', resM 256 (Z.map zs) x1 x2 x3 x4 x5 = (rx, ry, L') := ⟨_, _, _, rfl⟩
      have HR := Lib.hid ((hX.o.below (bel_drew (Below.refl wr.heap.size wr))).reserve hres)
      have HC := Lib.hid (res_cases hres)
      have HX : Hid (LX w wr.drew p F Z _ _) := hX.below (bel_drew (Below.refl _ _))
      obtain ⟨a7, c7, rfl⟩ := ownsRow_form hX.d
      obtain ⟨a8, c8, rfl⟩ := ownsRow_form hX.a
      clear hcc hX hres
      go_upto_region 11 with fail
      go_region_held3 (fun w' => (w'.cell? ⟨b, off + j * 6 + 1, none⟩ = some (.int .i64 x1) ∧ w'.cell? ⟨b, off + j * 6 + 2, none⟩ = some (.int .i64 x2) ∧ w'.cell? ⟨b, off + j * 6 + 3, none⟩ = some (.int .i64 x3) ∧ w'.cell? ⟨b, off + j * 6 + 4, none⟩ = some (.int .i64 x4) ∧ w'.cell? ⟨b, off + j * 6 + 5, none⟩ = some (.int .i64 x5)) ∧ Below w.heap.size w w')
        ((first | (obtain ⟨⟨z0, z1, z2, z3, z4, z5⟩, z9⟩ := HA.out _ (bel_drew hbr); exact ⟨⟨z1, z2, z3, z4, z5⟩, z9⟩) | (obtain ⟨⟨z0, z1, z2, z3, z4, z5⟩, z9⟩ := HA.out _ (by assumption); exact ⟨⟨z1, z2, z3, z4, z5⟩, z9⟩)))
        ((go_at_call 33; refine Calls.mono HR.out ?_; rintro e w4 ⟨rfl, F4, h4, hF4, hf4⟩; have hP4 := h4.bel))
      obtain ⟨hd4, hdF4⟩ := rows_keep HX.out.d HX.out.dF hf4 hF4
      obtain ⟨ha4, haF4⟩ := rows_keep HX.out.a HX.out.aF hf4 hF4
      have HD4 := Lib.hid hd4
      have HA4 := Lib.hid ha4
      have H4 := Lib.hid h4
      have HdF := Lib.hid hdF4
      have HaF := Lib.hid haF4
      have HAd := Lib.hid HX.out.ad
      have HOk := Lib.hid HX.out.ok
      have HAp := Lib.hid HX.out.ap
      obtain ⟨⟨A0, A1, A2, A3, A4, A5⟩, _⟩ := HA.out _ hP4
      simp only at A0 A1 A2 A3 A4 A5
      clear h4 hd4 ha4 hdF4 haF4 HX HR hf4 hF4 hbr
      by_cases hy : ry = 0
      · subst hy
        obtain ⟨hb3, hok3, hL3⟩ : ¬ (x3 < 1 ∨ 1048576 < x3 ∨ x4 < 0 ∨ x5 < x4 ∨ 1099511627776 < x5) ∧ okP x2 x3 x4 x5 (Z.map zs) rx = true ∧ L' = Z.map zs ++ [(x1, x2, rx, rx + x3)] := by
          rcases HC.out with ⟨h, _⟩ | ⟨_, h⟩
          · exact absurd rfl h
          · exact h
        obtain ⟨q1, q2, _⟩ := okP_iff.1 hok3
        have hw3 : IntKind.i64.wrap (rx + x3) = rx + x3 := IntWalk.i64_in _ (by omega)
        have hd1 : decide (rx < x4) = false := decide_eq_false (by omega)
        have hd2 : decide (rx + x3 > x5) = false := decide_eq_false (by omega)
        have hd3 : decide (x5 < rx + x3) = false := decide_eq_false (by omega)
        have HOk' : Hid (∀ z ∈ Z ++ [((x0, x1, x2, x3, x4, x5), rx)], okZ z) := fun z hz => by
          rcases List.mem_append.1 hz with hz | hz
          · exact HOk.out z hz
          · simp only [List.mem_singleton] at hz
            subst hz
            exact ⟨hb3, q1, q2⟩
        have HEq : Hid (L' = (Z ++ [((x0, x1, x2, x3, x4, x5), rx)]).map zs) := by show _ = _; rw [List.map_append]; exact hL3
        have HAp' : Hid (Apart ((Z ++ [((x0, x1, x2, x3, x4, x5), rx)]).map zs)) := by show Apart _; rw [List.map_append]; exact HAp.out.more hok3
        clear HC hok3 hb3 q1 q2 HOk HAp hL3
        obtain ⟨i0, ki, kz0, kz1, kz2⟩ := info_parts Try.info57
        obtain ⟨j0, kj, kj0, kj1, kj2⟩ := info_parts Try.info3
        have hb5 : Below w4.heap.size w4 (w4.alloc (.cells #[.int .i64 x0, .int .i64 x1, .int .i64 x2, .int .i64 x3, .int .i64 x4, .int .i64 x5] 57)) := bel_alloc (Below.refl _ _) _
        have HD5 : Hid ((w4.alloc (.cells #[.int .i64 x0, .int .i64 x1, .int .i64 x2, .int .i64 x3, .int .i64 x4, .int .i64 x5] 57)).ownsRow w.heap.size 57 6 (.slice a7 Z.length c7) Z.length (Z.flatMap fun z => q6 z.1)) := ownsRow_keep HD4.out fun k hk => hb5.block k (ownsRow_lt HD4.out k hk)
        have hs4 := (hP4.trans (hb5.mono hP4.size)).size
        go_wp2_with (at_builtin; refine wpList_append_lies _ rfl _ _ 50 rfl w.heap.size 57 i0 _ 6 48 Try.underlying50 ki kz0 kz1 kz2 rfl (by decide) _ _ _ rfl HD5.out ⟨w4.heap.size, 0, none⟩ 1 1 (q6 (x0, x1, x2, x3, x4, x5)) rfl rfl (fun j u hu => cell_new _ _ _ j u hu) (by simp [q6, Value.oneCell']) (by omega) (by unfold maxLen; omega) (by omega) hs4 _ rfl ?_)
        intro gg cap6 w6 hown6 hgrow6 hat6 hlt6
        obtain ⟨h6, hdF6, hoth6⟩ := grow_row (n' := Z.length + 1) (cap := cap6) H4.out hb5 HD4.out HdF.out hgrow6 (hat6.imp_right fun h => by rw [h]; simp)
        obtain ⟨ha6, hne6⟩ := hoth6 3 1 _ _ _ HA4.out (fun k hk => HAd.out k hk)
        have HA6 := Lib.hid ha6
        have HNe6 := Lib.hid hne6
        have HdF6 := Lib.hid hdF6
        have H6 := Lib.hid h6
        have HD6 : Hid (w6.ownsRow w.heap.size 57 6 (.slice (some ⟨gg, 0, none⟩) (Z.length + 1) cap6) (Z.length + 1) ((Z ++ [((x0, x1, x2, x3, x4, x5), rx)]).flatMap fun z => q6 z.1)) := by
          show World.ownsRow _ _ _ _ _ _ _
          rw [List.flatMap_append]
          simpa using hown6
        have hb7 : Below w6.heap.size w6 (w6.alloc (.cells #[.int .i64 rx] 3)) := bel_alloc (Below.refl _ _) _
        have HA7 : Hid ((w6.alloc (.cells #[.int .i64 rx] 3)).ownsRow w.heap.size 3 1 (.slice a8 Z.length c8) Z.length (Z.flatMap fun z => [.int .i64 z.2])) := ownsRow_keep ha6 fun k hk => hb7.block k (ownsRow_lt ha6 k hk)
        have hs6 := (h6.bel.trans (hb7.mono h6.bel.size)).size
        clear hown6 hgrow6 hat6 hoth6 ha6 hne6 hdF6 h6 A0 A1 A2 A3 A4 A5 hb5 HD5 HD4 HA4 H4 HdF HAd hlt6
        go_wp2_with (at_builtin; refine wpList_append_lies _ rfl _ _ 70 rfl w.heap.size 3 j0 _ 1 8 Try.underlying70 kj kj0 kj1 kj2 rfl (by decide) _ _ _ rfl HA7.out ⟨w6.heap.size, 0, none⟩ 1 1 [.int .i64 rx] rfl rfl (fun j u hu => cell_new _ _ _ j u hu) (by simp [Value.oneCell']) (by omega) (by unfold maxLen; omega) (by omega) hs6 _ rfl ?_)
        intro gg8 cap8 w8 hown8 hgrow8 hat8 hlt8
        obtain ⟨h8, haF8, hoth8⟩ := grow_row (n' := Z.length + 1) (cap := cap8) H6.out hb7 (ownsRow_keep HA6.out fun _ _ => rfl) HaF.out hgrow8 (hat8.imp_right fun h => by rw [h]; simp)
        obtain ⟨hd8, hne8⟩ := hoth8 57 6 _ _ _ HD6.out (fun k hk hk' => HNe6.out k hk' hk)
        have HD8 := Lib.hid hd8
        have HNe8 := Lib.hid hne8
        have HaF8 := Lib.hid haF8
        have HA8 : Hid (w8.ownsRow w.heap.size 3 1 (.slice (some ⟨gg8, 0, none⟩) (Z.length + 1) cap8) (Z.length + 1) ((Z ++ [((x0, x1, x2, x3, x4, x5), rx)]).flatMap fun z => [.int .i64 z.2])) := by
          show World.ownsRow _ _ _ _ _ _ _
          rw [List.flatMap_append]
          simpa using hown8
        have H8 := Lib.hid h8
        obtain ⟨⟨A0, A1, A2, A3, A4, A5⟩, _⟩ := HA.out _ h8.bel
        simp only at A0 A1 A2 A3 A4 A5
        have HbD : Hid (∀ n, Below w8.heap.size w8 (w8.drewN n)) := fun n => bel_drewN (Below.refl _ _) n
        clear hown8 hgrow8 hat8 hoth8 hd8 hne8 haF8 h8 hb7 HA7 hs6 HA6 HNe6 H6 HD6 hlt8
        go_wp2_with fail
        go_quiet (fail)
        go_wp2_with fail
        go_roundw
        case rel => exact ⟨j + 1, Z ++ [((x0, x1, x2, x3, x4, x5), rx)], F4, by omega, by go_num, by rw [List.length_append, List.length_singleton]; omega, LX.below ⟨by have := H8.out; rw [HEq.out] at this; exact this, by rw [List.length_append, List.length_singleton]; exact HD8.out, by rw [List.length_append, List.length_singleton]; exact HA8.out, HdF6.out, HaF8.out, fun k hk hk' => HNe8.out k hk' hk, HOk'.out, HAp'.out⟩ (HbD.out _)⟩
        case measure => simp [intOf]; omega
      · have hyb : (ry == 0) = false := by simpa using hy
        have hL : Hid (L' = Z.map zs) := by
          rcases HC.out with ⟨_, h⟩ | ⟨h, _⟩
          · exact h
          · exact absurd h hy
        clear hy A0 A1 A2 A3 A4 A5 HC
        go_wp2_with fail
        go_roundw
        case rel => exact ⟨j + 1, Z, F4, by omega, by go_num, by omega, ⟨by have := H4.out; rw [hL.out] at this; exact this, HD4.out, HA4.out, HdF.out, HaF.out, HAd.out, HOk.out, HAp.out⟩⟩
        case measure => simp [intOf]; omega
    · obtain ⟨a7, c7, rfl⟩ := ownsRow_form hX.d
      obtain ⟨a8, c8, rfl⟩ := ownsRow_form hX.a
      have HAll := Lib.hid hX.o.all
      have HX := Lib.hid hX
      have hM1 : Z.length ≤ 40 := by omega
      clear hX
      go_wp2_with fail
      refine HAll.out.mono ?_
      rintro e w4 ⟨a, c, l', rfl, hp4, hs4, hown, hb4⟩
      have hlen : l'.length = Z.length := by rw [hp4.length_eq, List.length_map]
      rw [hlen] at hown ⊢
      have HAp := Lib.hid (HX.out.ap.perm hp4)
      have HS4 := Lib.hid hs4
      have HX4 : Hid (LX w w4 p F Z (.slice a7 Z.length c7) (.slice a8 Z.length c8)) := HX.out.below hb4
      have HQ := Lib.hid (qs_of_own (by rw [← hlen] at hown; exact hown) rfl)
      rw [hlen] at HQ
      have HC4 := Lib.hid (fun h0 => ownsRow_cells hown h0)
      have hbx : Below w4.heap.size w4 w4 := Below.refl _ _
      clear HX HAll hp4 hs4 hown hb4
      go_wp2_with fail
      go_loopw [13] (fun si wx => ∃ q : Nat, q ≤ Z.length ∧ si = .int .i64 q ∧ Below w4.heap.size w4 wx) (fun si _ => Z.length - (intOf si).toNat)
      case atStart => exact ⟨0, Nat.zero_le _, rfl, hbx⟩
      case round =>
        clear hbx
        obtain ⟨q, hq, rfl, hbx⟩ := hrel
        by_cases hqm : q < Z.length
        · obtain ⟨g, cap, hv, hg0, hg1, hcap, _, _⟩ := HC4.out (by omega)
          simp only [Value.slice.injEq] at hv
          obtain ⟨rfl, _, rfl⟩ := hv
          have HK : Hid (∀ W, Below w4.heap.size w4 W → (W.cell? ⟨g, q * 4, none⟩ = some (.int .i64 (l'[q]'(by omega)).1) ∧ W.cell? ⟨g, q * 4 + 1, none⟩ = some (.int .i64 (l'[q]'(by omega)).2.1) ∧ W.cell? ⟨g, q * 4 + 2, none⟩ = some (.int .i64 (l'[q]'(by omega)).2.2.1) ∧ W.cell? ⟨g, q * 4 + 3, none⟩ = some (.int .i64 (l'[q]'(by omega)).2.2.2)) ∧ Below w4.heap.size w4 W) := fun W hb => by
            obtain ⟨b', off', e, _, hc⟩ := (HQ.out.keep hb).2 (by omega)
            simp only [Option.some.injEq, Addr.mk.injEq] at e
            obtain ⟨rfl, rfl, _⟩ := e
            have := hc q (by omega)
            rw [Nat.zero_add] at this
            exact ⟨⟨this.c0, this.c1, this.c2, this.c3⟩, hb⟩
          have HF := Lib.hid (fun W (hb : Below w4.heap.size w4 W) => (apart_any w4.heap.size (some ⟨g, 0, none⟩) q c (l'.take q) (l'[q]'(by omega)).1 (l'[q]'(by omega)).2.1 (l'[q]'(by omega)).2.2.1 (l'[q]'(by omega)).2.2.2 W ((HQ.out.keep hb).take q (by omega)) hb.size (by omega)).mono (R' := fun e w' => e = .returned (.bool true) ∧ Below w4.heap.size w4 w') (fun e w' ⟨he, hb'⟩ => ⟨by rw [he]; exact congrArg (fun b => Ending.returned (.bool b)) (HAp.out.at_ q (by omega)), hb.trans (hb'.mono hb.size)⟩))
          have hqI : (q : Int) < (Z.length : Int) := by omega
          have hq0 : (0 : Int) ≤ (q : Int) := by omega
          have hqc : (q : Int) ≤ (c : Int) := by omega
          by_cases hq1 : q = 0
          · generalize (l'[q]'(by omega)).1 = y0 at *
            generalize (l'[q]'(by omega)).2.1 = y1 at *
            generalize (l'[q]'(by omega)).2.2.1 = y2 at *
            generalize (l'[q]'(by omega)).2.2.2 = y3 at *
            have hgt : decide ((q : Int) > 0) = false := decide_eq_false (by omega)
            have hgt2 : decide ((0 : Int) < (q : Int)) = false := decide_eq_false (by omega)
            have hgt3 : decide (0 < q) = false := decide_eq_false (by omega)
            have hgt4 : ¬ 0 < q := by omega
            have hq2 : q + 1 ≤ Z.length := by omega
            clear hq1
            go_upto_region 21 with fail
            refine wp_region_held_drew (S := fun w' => (w'.cell? ⟨g, q * 4, none⟩ = some (.int .i64 y0) ∧ w'.cell? ⟨g, q * 4 + 1, none⟩ = some (.int .i64 y1) ∧ w'.cell? ⟨g, q * 4 + 2, none⟩ = some (.int .i64 y2) ∧ w'.cell? ⟨g, q * 4 + 3, none⟩ = some (.int .i64 y3)) ∧ Below w4.heap.size w4 w') (by kernel_rfl) ?hS1 (fun hHeld => ?_)
            case hS1 => (try dsimp only); (first | exact HK.out _ (bel_drew hbx) | exact HK.out _ (by assumption))
            refine wpAnyH_take (i := 0) (oi := { dst := some 125, op := Op.move (Operand.tmp 12), type := 55, pos := "law.go:159", after := #[], guard := none }) (v := ?vv2) rfl (by kernel_rfl) (by kernel_rfl) (by kernel_rfl) (fun _ _ _ h => h) (Or.inl ⟨by rfl, ?hy2⟩) (by assumption) ?hr2
            case hy2 => (intro wS hSw; (try dsimp only at hSw); go_simp; try with_reducible rfl)
            try simp only [Act.put, List.setIfInBounds_toArray, List.set_cons_zero, List.set_cons_succ]
            refine wpAnyH_take (i := 1) (oi := { dst := some 126, op := Op.move (Operand.tmp 13), type := 3, pos := "law.go:159", after := #[], guard := none }) (v := ?vv3) rfl (by kernel_rfl) (by kernel_rfl) (by kernel_rfl) (fun _ _ _ h => h) (Or.inl ⟨by rfl, ?hy3⟩) (by assumption) ?hr3
            case hy3 => (intro wS hSw; (try dsimp only at hSw); go_simp; try with_reducible rfl)
            try simp only [Act.put, List.setIfInBounds_toArray, List.set_cons_zero, List.set_cons_succ]
            refine wpAnyH_take (i := 2) (oi := { dst := some 127, op := Op.slice 55 (Operand.tmp 125) none (some (Operand.tmp 126)) none, type := 55, pos := "law.go:159", after := #[{ on := 0, ground := Ground.data }, { on := 1, ground := Ground.data }], guard := none }) (v := ?vv4) rfl (by kernel_rfl) (by kernel_rfl) (by kernel_rfl) (fun _ _ _ h => h) (Or.inl ⟨by rfl, ?hy4⟩) (by assumption) ?hr4
            case hy4 => (intro wS hSw; (try dsimp only at hSw); go_simp; try with_reducible rfl)
            try simp only [Act.put, List.setIfInBounds_toArray, List.set_cons_zero, List.set_cons_succ]
            refine wpAnyH_take (i := 3) (oi := { dst := some 128, op := Op.move (Operand.tmp 12), type := 55, pos := "law.go:159", after := #[], guard := none }) (v := ?vv5) rfl (by kernel_rfl) (by kernel_rfl) (by kernel_rfl) (fun _ _ _ h => h) (Or.inl ⟨by rfl, ?hy5⟩) (by assumption) ?hr5
            case hy5 => (intro wS hSw; (try dsimp only at hSw); go_simp; try with_reducible rfl)
            try simp only [Act.put, List.setIfInBounds_toArray, List.set_cons_zero, List.set_cons_succ]
            refine wpAnyH_take (i := 4) (oi := { dst := some 129, op := Op.move (Operand.tmp 13), type := 3, pos := "law.go:159", after := #[], guard := none }) (v := ?vv6) rfl (by kernel_rfl) (by kernel_rfl) (by kernel_rfl) (fun _ _ _ h => h) (Or.inl ⟨by rfl, ?hy6⟩) (by assumption) ?hr6
            case hy6 => (intro wS hSw; (try dsimp only at hSw); go_simp; try with_reducible rfl)
            try simp only [Act.put, List.setIfInBounds_toArray, List.set_cons_zero, List.set_cons_succ]
            refine wpAnyH_take (i := 5) (oi := { dst := some 130, op := Op.indexAddr 55 (Operand.tmp 128) (Operand.tmp 129), type := 0, pos := "law.go:159", after := #[{ on := 3, ground := Ground.data }, { on := 4, ground := Ground.data }], guard := none }) (v := ?vv7) rfl (by kernel_rfl) (by kernel_rfl) (by kernel_rfl) (fun _ _ _ h => h) (Or.inl ⟨by rfl, ?hy7⟩) (by assumption) ?hr7
            case hy7 => (intro wS hSw; (try dsimp only at hSw); go_simp; try with_reducible rfl)
            try simp only [Act.put, List.setIfInBounds_toArray, List.set_cons_zero, List.set_cons_succ]
            refine wpAnyH_take (i := 6) (oi := { dst := some 131, op := Op.load 59 (Operand.tmp 130), type := 59, pos := "law.go:159", after := #[{ on := 5, ground := Ground.data }], guard := none }) (v := ?vv8) rfl (by kernel_rfl) (by kernel_rfl) (by kernel_rfl) (fun _ _ _ h => h) (Or.inl ⟨by rfl, ?hy8⟩) (by assumption) ?hr8
            case hy8 => (intro wS hSw; (try dsimp only at hSw); go_simp; try with_reducible rfl)
            try simp only [Act.put, List.setIfInBounds_toArray, List.set_cons_zero, List.set_cons_succ]
            refine wpAnyH_ready (rs := [7]) (by kernel_rfl) (by simp) ?_
            refine AllReadyH.cons (o := { dst := some 132, op := Op.call { callee := Callee.value (Operand.func 34), args := #[Operand.tmp 127, Operand.tmp 131], argTypes := #[55, 59] }, type := 4, pos := "law.go:159", after := #[{ on := 2, ground := Ground.data }, { on := 6, ground := Ground.data }], guard := none }) rfl (fun K hK => ?_) AllReadyH.nil
            go_simp
            (go_at_call 34; refine Calls.mono (HF.out _ ?_) ?_; (first | assumption | exact bel_drew hbx); rintro e w5 ⟨rfl, hP5⟩)
            try go_wp2_with fail
            refine hK.out _ _ ?hS9 (fun hHeld => ?hr9)
            case hS9 => (try dsimp only); (first | exact HK.out _ (bel_drew hbx) | exact HK.out _ (by assumption))
            clear hK K
            try simp only [Act.put, List.setIfInBounds_toArray, List.set_cons_zero, List.set_cons_succ]
            refine wpAnyH_take (i := 8) (oi := { dst := some 133, op := Op.unOp UnOp.not 4 (Operand.tmp 132), type := 4, pos := "law.go:159", after := #[{ on := 7, ground := Ground.data }], guard := none }) (v := ?vv10) rfl (by kernel_rfl) (by kernel_rfl) (by kernel_rfl) (fun _ _ _ h => h) (Or.inl ⟨by rfl, ?hy10⟩) (by assumption) ?hr10
            case hy10 => (intro wS hSw; (try dsimp only at hSw); go_simp; try with_reducible rfl)
            try simp only [Act.put, List.setIfInBounds_toArray, List.set_cons_zero, List.set_cons_succ]
            refine wpAnyH_take (i := 9) (oi := { dst := some 134, op := Op.move (Operand.tmp 133), type := 4, pos := "law.go:159", after := #[{ on := 8, ground := Ground.data }, { on := 7, ground := Ground.chain }], guard := none }) (v := ?vv11) rfl (by kernel_rfl) (by kernel_rfl) (by kernel_rfl) (fun _ _ _ h => h) (Or.inl ⟨by rfl, ?hy11⟩) (by assumption) ?hr11
            case hy11 => (intro wS hSw; (try dsimp only at hSw); go_simp; try with_reducible rfl)
            try simp only [Act.put, List.setIfInBounds_toArray, List.set_cons_zero, List.set_cons_succ]
            refine wpAnyH_take (i := 10) (oi := { dst := some 135, op := Op.move (Operand.tmp 13), type := 3, pos := "law.go:159", after := #[{ on := 9, ground := Ground.guard }], guard := some (9, false) }) (v := ?vv12) rfl (by kernel_rfl) (by kernel_rfl) (by kernel_rfl) (fun _ _ _ h => h) (Or.inl ⟨by rfl, ?hy12⟩) (by assumption) ?hr12
            case hy12 => (intro wS hSw; (try dsimp only at hSw); go_simp; try with_reducible rfl)
            try simp only [Act.put, List.setIfInBounds_toArray, List.set_cons_zero, List.set_cons_succ]
            refine wpAnyH_take (i := 11) (oi := { dst := some 136, op := Op.binOp BinOp.gtr 3 (Operand.tmp 135) (Operand.const (Value.int IntKind.i64 0)) 3, type := 4, pos := "law.go:159", after := #[{ on := 10, ground := Ground.data }, { on := 9, ground := Ground.guard }], guard := some (9, false) }) (v := ?vv13) rfl (by kernel_rfl) (by kernel_rfl) (by kernel_rfl) (fun _ _ _ h => h) (Or.inl ⟨by rfl, ?hy13⟩) (by assumption) ?hr13
            case hy13 => (intro wS hSw; (try dsimp only at hSw); go_simp; try with_reducible rfl)
            try simp only [Act.put, List.setIfInBounds_toArray, List.set_cons_zero, List.set_cons_succ]
            refine wpAnyH_take (i := 12) (oi := { dst := some 137, op := Op.move (Operand.tmp 136), type := 4, pos := "law.go:159", after := #[{ on := 11, ground := Ground.data }, { on := 9, ground := Ground.chain }, { on := 9, ground := Ground.guard }], guard := some (9, false) }) (v := ?vv14) rfl (by kernel_rfl) (by kernel_rfl) (by kernel_rfl) (fun _ _ _ h => h) (Or.inl ⟨by rfl, ?hy14⟩) (by assumption) ?hr14
            case hy14 => (intro wS hSw; (try dsimp only at hSw); go_simp; try with_reducible rfl)
            try simp only [Act.put, List.setIfInBounds_toArray, List.set_cons_zero, List.set_cons_succ]
            refine wpAnyH_take (i := 13) (oi := { dst := some 138, op := Op.move (Operand.tmp 12), type := 55, pos := "law.go:159", after := #[{ on := 12, ground := Ground.guard }], guard := some (12, true) }) (v := undef) rfl (by kernel_rfl) (by kernel_rfl) (by kernel_rfl) (fun _ _ _ h => h) (Or.inr ⟨by rfl, rfl⟩) (by assumption) ?_
            try simp only [Act.put, List.setIfInBounds_toArray, List.set_cons_zero, List.set_cons_succ]
            refine wpAnyH_take (i := 14) (oi := { dst := some 139, op := Op.move (Operand.tmp 13), type := 3, pos := "law.go:159", after := #[{ on := 12, ground := Ground.guard }], guard := some (12, true) }) (v := undef) rfl (by kernel_rfl) (by kernel_rfl) (by kernel_rfl) (fun _ _ _ h => h) (Or.inr ⟨by rfl, rfl⟩) (by assumption) ?_
            try simp only [Act.put, List.setIfInBounds_toArray, List.set_cons_zero, List.set_cons_succ]
            refine wpAnyH_take (i := 15) (oi := { dst := some 140, op := Op.binOp BinOp.sub 3 (Operand.tmp 139) (Operand.const (Value.int IntKind.i64 1)) 3, type := 3, pos := "law.go:159", after := #[{ on := 14, ground := Ground.data }, { on := 12, ground := Ground.guard }], guard := some (12, true) }) (v := undef) rfl (by kernel_rfl) (by kernel_rfl) (by kernel_rfl) (fun _ _ _ h => h) (Or.inr ⟨by rfl, rfl⟩) (by assumption) ?_
            try simp only [Act.put, List.setIfInBounds_toArray, List.set_cons_zero, List.set_cons_succ]
            refine wpAnyH_take (i := 16) (oi := { dst := some 141, op := Op.indexAddr 55 (Operand.tmp 138) (Operand.tmp 140), type := 0, pos := "law.go:159", after := #[{ on := 13, ground := Ground.data }, { on := 15, ground := Ground.data }, { on := 12, ground := Ground.guard }], guard := some (12, true) }) (v := undef) rfl (by kernel_rfl) (by kernel_rfl) (by kernel_rfl) (fun _ _ _ h => h) (Or.inr ⟨by rfl, rfl⟩) (by assumption) ?_
            try simp only [Act.put, List.setIfInBounds_toArray, List.set_cons_zero, List.set_cons_succ]
            refine wpAnyH_take (i := 17) (oi := { dst := some 142, op := Op.fieldAddr 59 (Operand.tmp 141) 2, type := 0, pos := "law.go:159", after := #[{ on := 16, ground := Ground.data }, { on := 12, ground := Ground.guard }], guard := some (12, true) }) (v := undef) rfl (by kernel_rfl) (by kernel_rfl) (by kernel_rfl) (fun _ _ _ h => h) (Or.inr ⟨by rfl, rfl⟩) (by assumption) ?_
            try simp only [Act.put, List.setIfInBounds_toArray, List.set_cons_zero, List.set_cons_succ]
            refine wpAnyH_take (i := 18) (oi := { dst := some 143, op := Op.load 3 (Operand.tmp 142), type := 3, pos := "law.go:159", after := #[{ on := 17, ground := Ground.data }, { on := 12, ground := Ground.guard }], guard := some (12, true) }) (v := undef) rfl (by kernel_rfl) (by kernel_rfl) (by kernel_rfl) (fun _ _ _ h => h) (Or.inr ⟨by rfl, rfl⟩) (by assumption) ?_
            try simp only [Act.put, List.setIfInBounds_toArray, List.set_cons_zero, List.set_cons_succ]
            refine wpAnyH_take (i := 19) (oi := { dst := some 144, op := Op.move (Operand.tmp 12), type := 55, pos := "law.go:159", after := #[{ on := 12, ground := Ground.guard }], guard := some (12, true) }) (v := undef) rfl (by kernel_rfl) (by kernel_rfl) (by kernel_rfl) (fun _ _ _ h => h) (Or.inr ⟨by rfl, rfl⟩) (by assumption) ?_
            try simp only [Act.put, List.setIfInBounds_toArray, List.set_cons_zero, List.set_cons_succ]
            refine wpAnyH_take (i := 20) (oi := { dst := some 145, op := Op.move (Operand.tmp 13), type := 3, pos := "law.go:159", after := #[{ on := 12, ground := Ground.guard }], guard := some (12, true) }) (v := undef) rfl (by kernel_rfl) (by kernel_rfl) (by kernel_rfl) (fun _ _ _ h => h) (Or.inr ⟨by rfl, rfl⟩) (by assumption) ?_
            try simp only [Act.put, List.setIfInBounds_toArray, List.set_cons_zero, List.set_cons_succ]
            refine wpAnyH_take (i := 21) (oi := { dst := some 146, op := Op.indexAddr 55 (Operand.tmp 144) (Operand.tmp 145), type := 0, pos := "law.go:159", after := #[{ on := 19, ground := Ground.data }, { on := 20, ground := Ground.data }, { on := 12, ground := Ground.guard }], guard := some (12, true) }) (v := undef) rfl (by kernel_rfl) (by kernel_rfl) (by kernel_rfl) (fun _ _ _ h => h) (Or.inr ⟨by rfl, rfl⟩) (by assumption) ?_
            try simp only [Act.put, List.setIfInBounds_toArray, List.set_cons_zero, List.set_cons_succ]
            refine wpAnyH_take (i := 22) (oi := { dst := some 147, op := Op.fieldAddr 59 (Operand.tmp 146) 2, type := 0, pos := "law.go:159", after := #[{ on := 21, ground := Ground.data }, { on := 12, ground := Ground.guard }], guard := some (12, true) }) (v := undef) rfl (by kernel_rfl) (by kernel_rfl) (by kernel_rfl) (fun _ _ _ h => h) (Or.inr ⟨by rfl, rfl⟩) (by assumption) ?_
            try simp only [Act.put, List.setIfInBounds_toArray, List.set_cons_zero, List.set_cons_succ]
            refine wpAnyH_take (i := 23) (oi := { dst := some 148, op := Op.load 3 (Operand.tmp 147), type := 3, pos := "law.go:159", after := #[{ on := 22, ground := Ground.data }, { on := 12, ground := Ground.guard }], guard := some (12, true) }) (v := undef) rfl (by kernel_rfl) (by kernel_rfl) (by kernel_rfl) (fun _ _ _ h => h) (Or.inr ⟨by rfl, rfl⟩) (by assumption) ?_
            try simp only [Act.put, List.setIfInBounds_toArray, List.set_cons_zero, List.set_cons_succ]
            refine wpAnyH_take (i := 24) (oi := { dst := some 149, op := Op.binOp BinOp.gtr 3 (Operand.tmp 143) (Operand.tmp 148) 3, type := 4, pos := "law.go:159", after := #[{ on := 18, ground := Ground.data }, { on := 23, ground := Ground.data }, { on := 12, ground := Ground.guard }], guard := some (12, true) }) (v := undef) rfl (by kernel_rfl) (by kernel_rfl) (by kernel_rfl) (fun _ _ _ h => h) (Or.inr ⟨by rfl, rfl⟩) (by assumption) ?_
            try simp only [Act.put, List.setIfInBounds_toArray, List.set_cons_zero, List.set_cons_succ]
            refine wpAnyH_take (i := 25) (oi := { dst := some 150, op := Op.pick (Operand.tmp 137) (Operand.tmp 149) (Operand.const (Value.bool false)), type := 4, pos := "law.go:159", after := #[{ on := 12, ground := Ground.data }, { on := 24, ground := Ground.data }, { on := 9, ground := Ground.guard }], guard := some (9, false) }) (v := ?vv27) rfl (by kernel_rfl) (by kernel_rfl) (by kernel_rfl) (fun _ _ _ h => h) (Or.inl ⟨by rfl, ?hy27⟩) (by assumption) ?hr27
            case hy27 => (intro wS hSw; (try dsimp only at hSw); go_simp; try with_reducible rfl)
            try simp only [Act.put, List.setIfInBounds_toArray, List.set_cons_zero, List.set_cons_succ]
            refine wpAnyH_take (i := 26) (oi := { dst := some 151, op := Op.pick (Operand.tmp 134) (Operand.const (Value.bool true)) (Operand.tmp 150), type := 4, pos := "law.go:159", after := #[{ on := 9, ground := Ground.data }, { on := 25, ground := Ground.data }], guard := none }) (v := ?vv28) rfl (by kernel_rfl) (by kernel_rfl) (by kernel_rfl) (fun _ _ _ h => h) (Or.inl ⟨by rfl, ?hy28⟩) (by assumption) ?hr28
            case hy28 => (intro wS hSw; (try dsimp only at hSw); go_simp; try with_reducible rfl)
            try simp only [Act.put, List.setIfInBounds_toArray, List.set_cons_zero, List.set_cons_succ]
            refine wpAnyH_done (by kernel_rfl) ?_ _
            go_wp2_with fail
            go_roundw
            case rel => exact ⟨q + 1, hq2, by go_num, hP5⟩
            case measure => simp [intOf]; omega
          · have HP : Hid (∀ W, Below w4.heap.size w4 W → W.cell? ⟨g, (q - 1) * 4 + 2, none⟩ = some (.int .i64 (l'[q - 1]'(by omega)).2.2.1)) := fun W hb => by
              obtain ⟨b', off', e, _, hc⟩ := (HQ.out.keep hb).2 (by omega)
              simp only [Option.some.injEq, Addr.mk.injEq] at e
              obtain ⟨rfl, rfl, _⟩ := e
              have := (hc (q - 1) (by omega)).c2
              rw [Nat.zero_add] at this
              exact this
            have hle : (l'[q - 1]'(by omega)).2.2.1 ≤ (l'[q]'(by omega)).2.2.1 := by
              have := srt_from HS4.out (q - 1) (by omega)
              simpa [show q - 1 + 1 = q by omega] using this
            generalize (l'[q]'(by omega)).1 = y0 at *
            generalize (l'[q]'(by omega)).2.1 = y1 at *
            generalize (l'[q]'(by omega)).2.2.1 = y2 at *
            generalize (l'[q]'(by omega)).2.2.2 = y3 at *
            generalize (l'[q - 1]'(by omega)).2.2.1 = z2 at *
            obtain ⟨r, hr⟩ : ∃ r, q - 1 = r := ⟨_, rfl⟩
            rw [hr] at HP
            have hw1 : IntKind.i64.wrap ((q : Int) - 1) = (r : Int) := by rw [IntWalk.i64_in _ (by omega)]; omega
            have hrI : (r : Int) < (Z.length : Int) := by omega
            have hr0 : (0 : Int) ≤ (r : Int) := by omega
            have hgt : decide ((q : Int) > 0) = true := decide_eq_true (by omega)
            have hgt2 : decide ((0 : Int) < (q : Int)) = true := decide_eq_true (by omega)
            have hgt3 : decide (0 < q) = true := decide_eq_true (by omega)
            have hgt4 : 0 < q := by omega
            have hd1 : decide (z2 > y2) = false := decide_eq_false (by omega)
            have hd2 : decide (y2 < z2) = false := decide_eq_false (by omega)
            clear hq1 hr
            go_upto_region 21 with fail
            go_region_held3 (fun w' => (w'.cell? ⟨g, q * 4, none⟩ = some (.int .i64 y0) ∧ w'.cell? ⟨g, q * 4 + 1, none⟩ = some (.int .i64 y1) ∧ w'.cell? ⟨g, q * 4 + 2, none⟩ = some (.int .i64 y2) ∧ w'.cell? ⟨g, q * 4 + 3, none⟩ = some (.int .i64 y3)) ∧ w'.cell? ⟨g, r * 4 + 2, none⟩ = some (.int .i64 z2) ∧ Below w4.heap.size w4 w')
              ((first | (obtain ⟨z1, z9⟩ := HK.out _ (bel_drew hbx); exact ⟨z1, HP.out _ z9, z9⟩) | (obtain ⟨z1, z9⟩ := HK.out _ (by assumption); exact ⟨z1, HP.out _ z9, z9⟩)))
              ((go_at_call 34; refine Calls.mono (HF.out _ ?_) ?_; (first | assumption | exact bel_drew hbx); rintro e w5 ⟨rfl, hP5⟩))
            go_wp2_with fail
            go_roundw
            case rel => exact ⟨q + 1, by omega, by go_num, hP5⟩
            case measure => simp [intOf]; omega
        · have hX : LX w wr p F Z (.slice a7 Z.length c7) (.slice a8 Z.length c8) := HX4.out.below hbx
          clear HC4 HQ HAp HS4 HX4 hbx
          obtain ⟨M, hM⟩ : ∃ M, Z.length = M := ⟨_, rfl⟩
          have HD : Hid (wr.ownsRow w.heap.size 57 6 (.slice a7 M c7) M (Z.flatMap fun z => q6 z.1)) := by have := hX.d; rw [hM] at this; exact this
          have HA : Hid (wr.ownsRow w.heap.size 3 1 (.slice a8 M c8) M (Z.flatMap fun z => [.int .i64 z.2])) := by have := hX.a; rw [hM] at this; exact this
          have HdF : Hid (∀ k, (Value.slice a7 M c7).ownBlock = some k → ¬ F k) := by have := hX.dF; rw [hM] at this; exact this
          have HaF : Hid (∀ k, (Value.slice a8 M c8).ownBlock = some k → ¬ F k) := by have := hX.aF; rw [hM] at this; exact this
          have HO := Lib.hid hX.o
          have HOk := Lib.hid hX.ok
          have HAp := Lib.hid hX.ap
          have HMh := Lib.hid hM
          have hM40 : M ≤ 40 := by omega
          obtain rfl : q = M := by omega
          rw [hM]
          clear hX hM hM1 hq hqm hlen
          by_cases hM0 : q = 0
          · subst hM0
            as_aux_lemma =>
            have hb := HO.out.bel
            go_wp2_with fail
            go_ret
            exact ⟨rfl, hb⟩
          · have hMb : ((q : Int) == 0) = false := by simp; omega
            have hMn : ¬ (q : Int) = 0 := by omega
            obtain ⟨k, hk, hkM⟩ : ∃ k : Nat, G.tmod (q : Int) = (k : Int) ∧ k < q := by
              have h1 := Int.emod_nonneg G hMn
              have h2 := Int.emod_lt_of_pos G (by omega : (0 : Int) < q)
              exact ⟨(G % (q : Int)).toNat, by rw [Int.tmod_eq_emod_of_nonneg G0]; omega, by omega⟩
            have hGw : IntKind.i64.wrap G = G := IntWalk.i64_in _ (by omega)
            have hKw : IntKind.i64.wrap (k : Int) = (k : Int) := IntWalk.i64_in _ (by omega)
            have hkI : (k : Int) < (q : Int) := by omega
            have hk0 : (0 : Int) ≤ (k : Int) := by omega
            obtain ⟨g, rfl, hd⟩ := own_d HD.out HMh.out.symm (by omega)
            obtain ⟨g2, rfl, ha⟩ := own_a HA.out HMh.out.symm (by omega)
            obtain ⟨x, l2, hres, hge, hl2, hany⟩ := again HO.out.bd (by have := HMh.out; omega) HOk.out HAp.out (List.getElem_mem (by rw [HMh.out]; exact hkM : k < Z.length))
            have hd1 := Lib.hid (hd k (by rw [HMh.out]; exact hkM))
            have ha1 := ha k (by rw [HMh.out]; exact hkM)
            have HDk : Hid (∀ W : World, W.ownsRow w.heap.size 57 6 (.slice (some ⟨g, 0, none⟩) q c7) q (Z.flatMap fun z => q6 z.1) → A6 W g (k * 6) (Z[k]'(by rw [HMh.out]; exact hkM)).1) := fun W hW => by
              obtain ⟨g', e, h⟩ := own_d hW HMh.out.symm (by omega)
              cases e
              exact h k (by rw [HMh.out]; exact hkM)
            have HAk : Hid (∀ W : World, W.ownsRow w.heap.size 3 1 (.slice (some ⟨g2, 0, none⟩) q c8) q (Z.flatMap fun z => [.int .i64 z.2]) → W.cell? ⟨g2, k, none⟩ = some (.int .i64 (Z[k]'(by rw [HMh.out]; exact hkM)).2)) := fun W hW => by
              obtain ⟨g', e, h⟩ := own_a hW HMh.out.symm (by omega)
              cases e
              exact h k (by rw [HMh.out]; exact hkM)
            generalize (Z[k]'(by rw [HMh.out]; exact hkM)) = z at *
            obtain ⟨⟨x0, x1, x2, x3, x4, x5⟩, r⟩ := z
            simp only at hres hge hany ha1 HAk
            have hFree := HO.out.free x1
            rw [hany, if_pos rfl] at hFree
            have HFree := Lib.hid hFree
            have A1 := hd1.out.c1
            simp only at A1
            rw [HMh.out] at hl2
            have hgd := decide_eq_true hge
            have hgd2 : decide (x ≥ r) = true := hgd
            clear hFree hany hd ha hd1 ha1 hM0
            go_wp2_with fail
            refine HFree.out.mono ?_
            rintro e w5 ⟨rfl, h5, hf5⟩
            obtain ⟨hd5, hdF5⟩ := rows_keep HD.out HdF.out hf5 (fun j h => .inl h)
            obtain ⟨ha5, haF5⟩ := rows_keep HA.out HaF.out hf5 (fun j h => .inl h)
            have hK5 := HDk.out _ hd5
            have HB5 : Hid (∀ W, Fr F w5 W → A6 W g (k * 6) (x0, x1, x2, x3, x4, x5) ∧ Fr F w5 W) := fun W hb => ⟨hK5.fr hb (hdF5 g rfl), hb⟩
            have hb5 : Fr F w5 w5.drew := ⟨rfl, rfl, rfl, Nat.le_refl _, fun _ _ _ => rfl⟩
            have HR := Lib.hid ((h5.below (bel_drew (Below.refl w5.heap.size w5))).reserve hres)
            have HA5 : Hid (w5.drew.ownsRow w.heap.size 3 1 (.slice (some ⟨g2, 0, none⟩) q c8) q (Z.flatMap fun z => [.int .i64 z.2])) := ha5
            have HaF5 := Lib.hid haF5
            clear h5 hf5 hd5 hdF5 ha5 haF5 hK5 hres A1 HFree
            go_upto_region 27 with fail
            go_region_held3 (fun w' => (w'.cell? ⟨g, k * 6 + 1, none⟩ = some (.int .i64 x1) ∧ w'.cell? ⟨g, k * 6 + 2, none⟩ = some (.int .i64 x2) ∧ w'.cell? ⟨g, k * 6 + 3, none⟩ = some (.int .i64 x3) ∧ w'.cell? ⟨g, k * 6 + 4, none⟩ = some (.int .i64 x4) ∧ w'.cell? ⟨g, k * 6 + 5, none⟩ = some (.int .i64 x5)) ∧ Fr F w5 w')
              ((first | (obtain ⟨⟨z0, z1, z2, z3, z4, z5⟩, z9⟩ := HB5.out _ hb5; exact ⟨⟨z1, z2, z3, z4, z5⟩, z9⟩) | (obtain ⟨⟨z0, z1, z2, z3, z4, z5⟩, z9⟩ := HB5.out _ (by assumption); exact ⟨⟨z1, z2, z3, z4, z5⟩, z9⟩)))
              ((go_at_call 33; refine Calls.mono HR.out ?_; rintro e w6 ⟨rfl, F6, h6, hF6, hf6⟩; have hP6 : Fr F w5 w6 := ⟨hf6.os, hf6.tape, hf6.output, hf6.size, hf6.block⟩))
            obtain ⟨ha6, _⟩ := rows_keep HA5.out HaF5.out hf6 hF6
            have hA6 := HAk.out _ ha6
            have hb6 := h6.bel
            have HAll : Hid (Calls Try.prog 37 #[.pointer (some ⟨p, 0, none⟩)] w6 fun e w' => ∃ (a : Option Addr) (c : Nat), e = .returned (.slice a q c) ∧ Below w.heap.size w w') := h6.all.mono fun e w' ⟨a, c, l', he, hp, _, _, hb⟩ => ⟨a, c, by rw [he, hp.length_eq, hl2], hb6.trans (hb.mono hb6.size)⟩
            clear h6 hf6 hF6 hP6 ha6 hb6 HR HB5 hb5
            go_wp2_with fail
            refine HAll.out.mono ?_
            rintro e w7 ⟨a7, c7, rfl, hb7⟩
            go_wp2_with fail
            go_ret
            exact ⟨rfl, hb7⟩
end Go.Proofs.Ytaogdgbijjjpjaa
