/- SlotModel: the walk. -/
import Derived.Test.YtaogdgbijjjpjaaSModM
import Derived.Deep.RegionHeld3
import Derived.Deep.DrawnRows
namespace Go.Proofs.Ytaogdgbijjjpjaa
open Go.RowKit
set_option linter.unusedVariables false

theorem SX.at_ {w0 w : World} {p room : Nat} {F : Nat → Prop} {L m : List Q} {v : Value} (h : SX w0 w p room F L v m) (t : Int) :
    Calls Try.prog 38 #[.pointer (some ⟨p, 0, none⟩), .int .i64 t] w fun e w' => ∃ (a : Option Addr) (c : Nat), e = .returned (.slice a (m.filter fun x => !atOut t x).length c) ∧ QsIn w'.heap.size w' a (m.filter fun x => !atOut t x).length (m.filter fun x => !atOut t x) ∧ Below w.heap.size w w' :=
  (h.a.at_ t).mono fun _ _ ⟨a, c, l', he, hp, hs, ho, hb⟩ => by
    have e := h.a.bd.uniq hp hs h.pm h.sr
    subst e
    exact ⟨a, c, he, qs_of_own ho rfl, hb⟩
theorem SX.depth {w0 w : World} {p room : Nat} {F : Nat → Prop} {L m : List Q} {v : Value} (h : SX w0 w p room F L v m) (t : Int) :
    Calls Try.prog 39 #[.pointer (some ⟨p, 0, none⟩), .int .i64 t] w fun e w' => e = .returned (.int .i64 (m.filter fun x => !atOut t x).length) ∧ Below w.heap.size w w' :=
  (h.a.depth t).mono fun _ _ ⟨he, hb⟩ => ⟨by rw [he, (h.pm.filter _).length_eq], hb⟩
theorem filt_yes {m : List Q} {q : Nat} {t : Int} (h : q < m.length) (hy : atOut t m[q] = false) : (m.take (q + 1)).filter (fun x => !atOut t x) = (m.take q).filter (fun x => !atOut t x) ++ [m[q]] := by
  rw [List.take_succ_eq_append_getElem h, List.filter_append, List.filter_cons_of_pos (by rw [hy]; rfl), List.filter_nil]
theorem filt_no {m : List Q} {q : Nat} {t : Int} (h : q < m.length) (hy : atOut t m[q] = true) : (m.take (q + 1)).filter (fun x => !atOut t x) = (m.take q).filter (fun x => !atOut t x) := by
  rw [List.take_succ_eq_append_getElem h, List.filter_append, List.filter_cons_of_neg (by rw [hy]; simp), List.filter_nil, List.append_nil]
theorem filtA_len (m : List Q) (q : Nat) (t : Int) : ((m.take q).filter (fun x => !atOut t x)).length ≤ m.length := Nat.le_trans (List.length_filter_le _ _) (by rw [List.length_take]; omega)

def cI (w : World) (b k : Nat) : Int := match w.cell? ⟨b, k, none⟩ with | some v => intOf v | none => 0
theorem cI_eq {w : World} {b k : Nat} {z : Int} (h : w.cell? ⟨b, k, none⟩ = some (.int .i64 z)) : cI w b k = z := by unfold cI; rw [h]; rfl

theorem dec2 {w : World} {b : Nat} {x1 x2 z x3 : Int} (c0 : w.cell? ⟨b, 0, none⟩ = some (.int .i64 x1)) (c1 : w.cell? ⟨b, 1, none⟩ = some (.int .i64 x2)) (c2 : w.cell? ⟨b, 2, none⟩ = some (.int .i64 z)) (c3 : w.cell? ⟨b, 3, none⟩ = some (.int .i64 (z + x3))) :
    ((w.setCell ⟨b, 2, none⟩ (.int .i64 (z - 1))).setCell ⟨b, 3, none⟩ (.int .i64 (z + x3 - 1))).cell? ⟨b, 0, none⟩ = some (.int .i64 x1) ∧ ((w.setCell ⟨b, 2, none⟩ (.int .i64 (z - 1))).setCell ⟨b, 3, none⟩ (.int .i64 (z + x3 - 1))).cell? ⟨b, 1, none⟩ = some (.int .i64 x2) ∧
    ((w.setCell ⟨b, 2, none⟩ (.int .i64 (z - 1))).setCell ⟨b, 3, none⟩ (.int .i64 (z + x3 - 1))).cell? ⟨b, 2, none⟩ = some (.int .i64 (z - 1)) ∧ ((w.setCell ⟨b, 2, none⟩ (.int .i64 (z - 1))).setCell ⟨b, 3, none⟩ (.int .i64 (z + x3 - 1))).cell? ⟨b, 3, none⟩ = some (.int .i64 (z - 1 + x3)) := by
  refine ⟨?_, ?_, ?_, ?_⟩
  · rw [World.cell?_setCell_other _ _ _ _ (addr_ne (by decide)), World.cell?_setCell_other _ _ _ _ (addr_ne (by decide)), c0]
  · rw [World.cell?_setCell_other _ _ _ _ (addr_ne (by decide)), World.cell?_setCell_other _ _ _ _ (addr_ne (by decide)), c1]
  · rw [World.cell?_setCell_other _ _ _ _ (addr_ne (by decide)), World.cell?_setCell_same' _ _ _ (by rw [c2]; rfl)]
  · rw [World.cell?_setCell_same' _ _ _ (by rw [World.cell?_setCell_other _ _ _ _ (addr_ne (by decide)), c3]; rfl), show z + x3 - 1 = z - 1 + x3 by omega]

set_option maxHeartbeats 8000000 in
set_option maxRecDepth 100000 in
theorem smodel_walk (room : Int) (a0 : Option Addr) (n0 c0 : Nat) (ys : List (Int × Int × Int × Int × Int × Int)) (tick : Int) (w : World) (h1 : A6In w.heap.size w a0 n0 ys) (l1 : n0 ≤ 9223372036854775807) :
    Calls Try.prog 9 #[.int .i64 room, .slice a0 n0 c0, .int .i64 tick] w fun e w' => e = .returned (.bool true) ∧ Below w.heap.size w w' := by
  have hys := h1.1
  by_cases hbig : 40 < n0
  · as_aux_lemma =>
    go_enter Try.func9, Try.ntmps9
    go_wp2_with fail
    refine (sawake_any _).mono ?_
    rintro e w1 ⟨rfl, hb1⟩
    go_wp2_with fail
    refine (sawake_any _).mono ?_
    rintro e w2 ⟨rfl, hb2⟩
    go_wp2_with fail
    go_ret
    exact ⟨rfl, hb1.trans (hb2.mono hb1.size)⟩
  have hn0 : n0 ≤ 40 := by omega
  have H1 := Lib.hid h1
  clear h1
  go_enter Try.func9, Try.ntmps9
  go_wp2_with fail
  refine (sawake_any _).mono ?_
  rintro e w1 ⟨rfl, hb1⟩
  go_wp2_with fail
  refine (few_any w.heap.size a0 n0 c0 ys w1 (H1.out.keep hb1) hb1.size l1).mono ?_
  rintro e w2 ⟨⟨bb, rfl, _⟩, hb2⟩
  have hb02 := hb1.trans (hb2.mono hb1.size)
  cases bb
  · as_aux_lemma =>
    go_wp2_with fail
    refine (sawake_any _).mono ?_
    rintro e w3 ⟨rfl, hb3⟩
    go_wp2_with fail
    go_ret
    exact ⟨rfl, hb02.trans (hb3.mono hb02.size)⟩
  by_cases hbad : room < 1 ∨ 256 < room
  · by_cases hr1 : room < 1
    · as_aux_lemma =>
      go_wp2_with fail
      refine (snew_bad room _ hbad).mono ?_
      rintro e w3 ⟨rfl, rfl⟩
      go_wp2_with fail
      go_ret
      exact ⟨rfl, hb02⟩
    · have hr1' : 1 ≤ room := by omega
      have hr2' : 256 < room := by omega
      as_aux_lemma =>
      go_wp2_with fail
      refine (snew_bad room _ hbad).mono ?_
      rintro e w3 ⟨rfl, rfl⟩
      go_wp2_with fail
      go_ret
      exact ⟨rfl, hb02⟩
  have hr1 : 1 ≤ room := by omega
  have hr2 : room ≤ 256 := by omega
  obtain ⟨R, hR⟩ : ∃ R : Nat, room = (R : Int) := ⟨room.toNat, by omega⟩
  subst hR
  clear hbig hbad
  go_wp2_with fail
  refine (SO.new hb02 R (by omega) (by omega)).mono ?_
  rintro e w3 ⟨p, F3, rfl, h3, _, _⟩
  have H3 := Lib.hid h3
  clear h3 hb1 hb2 hb02
  go_wp2_with fail
  go_loopw [9, 10] (fun sm si wr => ∃ (i : Nat) (L m : List Q) (F : Nat → Prop), i ≤ n0 ∧ si = .int .i64 i ∧ SX w wr p R F L sm m) (fun _ si _ => n0 - (intOf si).toNat)
  case atStart => exact ⟨0, [], [], F3, Nat.zero_le _, rfl, SX.nil H3.out⟩
  case round =>
    clear H3
    obtain ⟨i, L, m, F, hi, rfl, hX⟩ := hrel
    by_cases hlt : i < n0
    · obtain ⟨b, off, rfl, hbB, hcc⟩ := (H1.out.keep hX.bel).2 (by omega)
      have hA := hcc i (by omega)
      generalize (ys[i]'(by omega)) = act at *
      obtain ⟨x0, x1, x2, x3, x4, x5⟩ := act
      obtain ⟨A0, A1, A2, A3, A4, A5⟩ := hA
      simp only at A0 A1 A2 A3 A4 A5
      have hiI : (i : Int) < (n0 : Int) := by omega
      obtain ⟨am, cm, rfl, hQm, hHas, hFm⟩ := hX.s
      have HX := Lib.hid hX
      clear hcc hX hQm hHas hFm
      go_upto_region 13 with fail
      have HX5 : Hid (SX w (wr.alloc (.cells #[.int .i64 x0, .int .i64 x1, .int .i64 x2, .int .i64 x3, .int .i64 x4, .int .i64 x5] 57)) p R F L (.slice am m.length cm) m) := HX.out.below (bel_alloc (Below.refl _ _) _)
      have d0 := cell_newb wr #[.int .i64 x0, .int .i64 x1, .int .i64 x2, .int .i64 x3, .int .i64 x4, .int .i64 x5] 57 _ 0 _ rfl rfl
      have d1 := cell_newb wr #[.int .i64 x0, .int .i64 x1, .int .i64 x2, .int .i64 x3, .int .i64 x4, .int .i64 x5] 57 _ 1 _ rfl rfl
      have d2 := cell_newb wr #[.int .i64 x0, .int .i64 x1, .int .i64 x2, .int .i64 x3, .int .i64 x4, .int .i64 x5] 57 _ 2 _ rfl rfl
      have d3 := cell_newb wr #[.int .i64 x0, .int .i64 x1, .int .i64 x2, .int .i64 x3, .int .i64 x4, .int .i64 x5] 57 _ 3 _ rfl rfl
      have d4 := cell_newb wr #[.int .i64 x0, .int .i64 x1, .int .i64 x2, .int .i64 x3, .int .i64 x4, .int .i64 x5] 57 _ 4 _ rfl rfl
      have d5 := cell_newb wr #[.int .i64 x0, .int .i64 x1, .int .i64 x2, .int .i64 x3, .int .i64 x4, .int .i64 x5] 57 _ 5 _ rfl rfl
      have HBx : Hid (¬ F wr.heap.size) := fun hk => by have := (HX.out.a.a.flt _ hk).1; omega
      have HLx : Hid (wr.heap.size < (wr.alloc (.cells #[.int .i64 x0, .int .i64 x1, .int .i64 x2, .int .i64 x3, .int .i64 x4, .int .i64 x5] 57)).heap.size) := by show _ < _; simp
      clear A0 A1 A2 A3 A4 A5 HX
      generalize wr.alloc (.cells #[.int .i64 x0, .int .i64 x1, .int .i64 x2, .int .i64 x3, .int .i64 x4, .int .i64 x5] 57) = w5 at *
      generalize wr.heap.size = bx at *
      have HD : Hid (∀ W, Fr F w5 W → (W.cell? ⟨bx, 0, none⟩ = some (.int .i64 x0) ∧ W.cell? ⟨bx, 1, none⟩ = some (.int .i64 x1) ∧ W.cell? ⟨bx, 2, none⟩ = some (.int .i64 x2) ∧ W.cell? ⟨bx, 3, none⟩ = some (.int .i64 x3) ∧ W.cell? ⟨bx, 4, none⟩ = some (.int .i64 x4) ∧ W.cell? ⟨bx, 5, none⟩ = some (.int .i64 x5))) := fun W hW =>
        ⟨(hW.cell (p := ⟨bx, 0, none⟩) HLx.out HBx.out).trans d0, (hW.cell (p := ⟨bx, 1, none⟩) HLx.out HBx.out).trans d1, (hW.cell (p := ⟨bx, 2, none⟩) HLx.out HBx.out).trans d2, (hW.cell (p := ⟨bx, 3, none⟩) HLx.out HBx.out).trans d3, (hW.cell (p := ⟨bx, 4, none⟩) HLx.out HBx.out).trans d4, (hW.cell (p := ⟨bx, 5, none⟩) HLx.out HBx.out).trans d5⟩
      clear d0 d1 d2 d3 d4 d5
      have hml := HX5.out.len.2
      have hb5 : Below w5.heap.size w5 w5 := Below.refl _ _
      go_wp2_with fail
      go_loopw [12, 13] (fun sk sj wx => ∃ (q : Nat) (kk : Int), q ≤ m.length ∧ sj = .int .i64 q ∧ sk = .int .i64 kk ∧ Hid (Kx m x1 q kk) ∧ Below w5.heap.size w5 wx) (fun _ sj _ => m.length - (intOf sj).toNat)
      case atStart => exact ⟨0, -1, Nat.zero_le _, rfl, rfl, Kx.zero _ _, hb5⟩
      case round =>
        clear hb5
        obtain ⟨q, kk, hq, rfl, rfl, HK, hb⟩ := hrel
        have hX := HX5.out.below hb
        by_cases hqm : q < m.length
        · obtain ⟨a2, c2, e, hQm, hHas, hFm⟩ := hX.s
          simp only [Value.slice.injEq] at e
          obtain ⟨rfl, _, rfl⟩ := e
          obtain ⟨b2, o2, rfl, _, hcm⟩ := hQm.2 (by omega)
          have m0 := (hcm q hqm).c0
          have m1 := (HD.out _ (Fr.of_below hb)).2.1
          have hqI : (q : Int) < (m.length : Int) := by omega
          have HKy : Hid (m[q].1 = x1 → Kx m x1 (q + 1) (q : Int)) := fun e => Kx.yes hqm e
          have HKn : Hid (m[q].1 ≠ x1 → Kx m x1 (q + 1) kk) := fun e => HK.out.no hqm e
          generalize m[q].1 = y0 at *
          have Hb := Lib.hid hb
          clear hcm hQm hHas hFm hX HK hb
          by_cases hy : y0 = x1
          · subst hy
            have HR := Lib.hid (HKy.out rfl)
            clear HKy HKn
            as_aux_lemma =>
            go_wp2_with fail
            go_quiet (fail)
            go_wp2_with fail
            go_roundw
            case rel => exact ⟨q + 1, (q : Int), by omega, by go_num, rfl, HR, bel_drewN Hb.out _⟩
            case measure => simp [intOf]; omega
          · have hyb : (y0 == x1) = false := by simpa using hy
            have HR := Lib.hid (HKn.out hy)
            clear HKy HKn
            as_aux_lemma =>
            go_wp2_with fail
            go_quiet (fail)
            go_wp2_with fail
            go_roundw
            case rel => exact ⟨q + 1, kk, by omega, by go_num, rfl, HR, bel_drewN Hb.out _⟩
            case measure => simp [intOf]; omega
        · obtain rfl : q = m.length := by omega
          have HK2 := Lib.hid (HK.out.two hX.pm)
          have HX := Lib.hid hX
          have HD2 : Hid (∀ W, Fr F wr W → (W.cell? ⟨bx, 0, none⟩ = some (.int .i64 x0) ∧ W.cell? ⟨bx, 1, none⟩ = some (.int .i64 x1) ∧ W.cell? ⟨bx, 2, none⟩ = some (.int .i64 x2) ∧ W.cell? ⟨bx, 3, none⟩ = some (.int .i64 x3) ∧ W.cell? ⟨bx, 4, none⟩ = some (.int .i64 x4) ∧ W.cell? ⟨bx, 5, none⟩ = some (.int .i64 x5))) := fun W hW => HD.out W ((Fr.of_below hb).trans (T := F) (U := F) hW (fun _ _ h => h) (fun _ _ h => h))
          have HLx2 : Hid (bx < wr.heap.size) := Nat.lt_of_lt_of_le HLx.out hb.size
          clear HK hb HX5 HD HLx hqm hX
          obtain ⟨A0, A1, A2, A3, A4, A5⟩ := HD2.out _ (Fr.refl _ _)
          by_cases hdo : x0 = 1
          · subst hdo
            have hFree := HX.out.free x1
            rcases HK2.out with ⟨rfl, hany⟩ | ⟨r, hr, rfl, hid, hany⟩
            · rw [hany, if_neg (by simp), filter_noneS hany] at hFree
              have HFree := Lib.hid hFree
              have HPm := Lib.hid HX.out.pm
              have HSr := Lib.hid HX.out.sr
              clear hFree hany HK2 HX
              as_aux_lemma =>
              go_wp2_with fail
              refine HFree.out.mono ?_
              rintro e w6 ⟨rfl, h6, hs6, _⟩
              have H6 : Hid (SX w w6 p R F L _ m) := ⟨h6, hs6, HPm.out, HSr.out⟩
              clear h6 hs6
              go_wp2_with fail
              go_roundw
              case rel => exact ⟨i + 1, L, m, F, by omega, by go_num, H6.out⟩
              case measure => simp [intOf]; omega
            · rw [hany, if_pos rfl] at hFree
              have HFree := Lib.hid hFree
              have HTD := Lib.hid (take_dropS HX.out.a.bd HX.out.pm HX.out.sr hr hid)
              clear hFree hany HK2 HX hid
              as_aux_lemma =>
              go_wp2_with fail
              refine HFree.out.mono ?_
              rintro e w6 ⟨rfl, h6, hs6, _⟩
              obtain ⟨a2, c2, e, hQm, hHas, hFm⟩ := hs6
              simp only [Value.slice.injEq] at e
              obtain ⟨rfl, _, rfl⟩ := e
              obtain ⟨b4, o4, rfl, hc, hc2⟩ : ∃ b off, am = some ⟨b, off, none⟩ ∧ m.length ≤ cm ∧ cm ≤ 9223372036854775807 := by
                rcases hHas with ⟨_, h, _⟩ | h
                · omega
                · exact h
              obtain ⟨n, hn⟩ : ∃ n, m.length = n := ⟨_, rfl⟩
              obtain ⟨L1, hL1⟩ : ∃ L, L = m.take r := ⟨_, rfl⟩
              obtain ⟨L3, hL3⟩ : ∃ L, L = m.drop (r + 1) := ⟨_, rfl⟩
              have HN := Lib.hid hn
              rw [hn] at hc hQm hr hml
              rw [hn]
              have HS1 : Hid (∀ W, Below w6.heap.size w6 W → Src W (.slice (some ⟨b4, o4, none⟩) r cm) r (L1.flatMap qc)) := fun W hW => by rw [hL1]; exact src_take hQm hW (by omega)
              have HS3 : Hid (∀ W, Below w6.heap.size w6 W → Src W (.slice (if cm = r + 1 then some ⟨b4, o4, none⟩ else some ⟨b4, o4 + (r + 1) * 4, none⟩) (n - (r + 1)) (cm - (r + 1))) (n - (r + 1)) (L3.flatMap qc)) := fun W hW => by rw [hL3]; exact src_drop hQm hW (by omega) hc
              have Htk : Hid (L1.length = r) := by show _ = _; rw [hL1, List.length_take]; omega
              have Hdk : Hid (L3.length = n - (r + 1)) := by show _ = _; rw [hL3, List.length_drop, hn]
              rw [← hL1, ← hL3] at HTD
              have hP : Below w6.heap.size w6 w6 := Below.refl _ _
              have k0 : (0 : Int) ≤ (r : Int) := by omega
              have k1 : (0 : Int) ≤ (r : Int) + 1 := by omega
              have k2 : (r : Int) ≤ (cm : Int) := by omega
              have k3 : (r : Int) + 1 ≤ (n : Int) := by omega
              have k4 : (n : Int) ≤ (cm : Int) := by omega
              have k5 : (r : Int) ≤ (n : Int) := by omega
              have hbk : 0 + r ≤ 4096 := by omega
              have hbk2 : 0 + r + (n - (r + 1)) ≤ 4096 := by omega
              have k6 : IntKind.i64.wrap ((r : Int) + 1) = (r : Int) + 1 := IntWalk.i64_in _ (by omega)
              have k7 : ((r : Int) + 1).toNat = r + 1 := by omega
              have H6 := Lib.hid h6
              clear hL1 hL3 hn hQm hHas hFm h6 A0 A1 A2 A3 A4 A5
              go_upto_region 23 with fail
              go_region_held3 (fun w' => Below w6.heap.size w6 w') ((focus repeat (first | (with_reducible assumption) | (with_reducible refine bel_alloc ?_ _) | (with_reducible refine bel_drew ?_))))
                (first | ((refine step_belS (w0 := w6) ?_ (.tmp 95) (.tmp 98) ?_ 0 r [] L1 (Value.slice (some ⟨w6.heap.size, 0, none⟩) 0 0) (Value.slice (some ⟨b4, o4, none⟩) r cm) ?_ ?_ ?_ ?_ ?_ Htk.out hbk ?_; rfl; rfl; rfl; rfl; (focus repeat (first | (with_reducible assumption) | (with_reducible refine bel_alloc ?_ _) | (with_reducible refine bel_drew ?_))); (focus repeat (first | (with_reducible assumption) | ((with_reducible refine own_litS _ _ _ ?_ ?_); (first | rfl | (simp; done)); (first | omega | (simp; omega))) | (with_reducible refine World.ownsRow.drew ?_))); (refine HS1.out _ ?_; (focus repeat (first | (with_reducible assumption) | (with_reducible refine bel_alloc ?_ _) | (with_reducible refine bel_drew ?_)))); intro v1 w1 hown1 hP1 hgrow1)) | ((refine step_belS (w0 := w6) ?_ (.tmp 99) (.tmp 103) ?_ (0 + r) (n - (r + 1)) ([] ++ L1) L3 v1 (Value.slice (if cm = r + 1 then some ⟨b4, o4, none⟩ else some ⟨b4, o4 + (r + 1) * 4, none⟩) (n - (r + 1)) (cm - (r + 1))) ?_ ?_ ?_ ?_ ?_ Hdk.out hbk2 ?_; rfl; rfl; rfl; rfl; (with_reducible assumption); (with_reducible assumption); (refine HS3.out _ ?_; (with_reducible assumption)); intro v2 w2 hown2 hP2 hgrow2)))
              all_goals
                have H7 : Hid (SX w w2 p R F (L.filter fun x => !(x.1 == x1)) v2 (L1 ++ L3)) := ⟨H6.out.below hP2, Sl.of_ownS (n := 0 + r + (n - (r + 1))) (by have e1 := Htk.out; have e2 := Hdk.out; rw [List.length_append]; omega) hown2 (fun k hk => (H6.out.a.flt k hk).1), HTD.out.1, HTD.out.2⟩
                clear hown2 hP2 hgrow2 hown1 hP1 hgrow1
                go_wp2_with fail
                go_roundw
              all_goals first
                | exact ⟨i + 1, _, _, F, by omega, by go_num, H7.out⟩
                | (simp [intOf]; omega)
          · have hdb : (x0 == 1) = false := by simpa using hdo
            obtain ⟨rx, ry, L', hres⟩ : ∃ rx ry L', resM R L x1 x2 x3 x4 x5 = (rx, ry, L') := ⟨_, _, _, rfl⟩
            have HR := Lib.hid (HX.out.reserve hres)
            have HRes := Lib.hid hres
            have HPm := Lib.hid HX.out.pm
            have HSr := Lib.hid HX.out.sr
            have HBdd := Lib.hid HX.out.a.bd
            have HmL := Lib.hid HX.out.len.1
            have HkI : Hid (kk = -1 ∨ ∃ r : Nat, kk = (r : Int)) := by
              rcases HK2.out with ⟨h, _⟩ | ⟨r, _, h, _⟩
              · exact .inl h
              · exact .inr ⟨r, h⟩
            clear hres HX hdo
            go_wp2_with fail
            refine HR.out.mono ?_
            rintro e w6 ⟨rfl, F6, h6, hs6, hf6⟩
            clear A0 A1 A2 A3 A4 A5
            obtain ⟨A0, A1, A2, A3, A4, A5⟩ := HD2.out _ hf6
            have H6 := Lib.hid h6
            have HS6 := Lib.hid hs6
            have HLx6 : Hid (bx < w6.heap.size) := Nat.lt_of_lt_of_le HLx2.out hf6.size
            clear h6 hs6 hf6 HR HD2 HLx2
            have HBd0 : Hid (x3 < 1 → (x3 < 1 ∨ 1048576 < x3 ∨ x4 < 0 ∨ x5 < x4 ∨ 1099511627776 < x5)) := fun h => .inl h
            have HBd1 : Hid (1048576 < x3 → (x3 < 1 ∨ 1048576 < x3 ∨ x4 < 0 ∨ x5 < x4 ∨ 1099511627776 < x5)) := fun h => .inr (.inl h)
            have HBd2 : Hid (x4 < 0 → (x3 < 1 ∨ 1048576 < x3 ∨ x4 < 0 ∨ x5 < x4 ∨ 1099511627776 < x5)) := fun h => .inr (.inr (.inl h))
            have HBd3 : Hid (x5 < x4 → (x3 < 1 ∨ 1048576 < x3 ∨ x4 < 0 ∨ x5 < x4 ∨ 1099511627776 < x5)) := fun h => .inr (.inr (.inr (.inl h)))
            have HBd4 : Hid (1099511627776 < x5 → (x3 < 1 ∨ 1048576 < x3 ∨ x4 < 0 ∨ x5 < x4 ∨ 1099511627776 < x5)) := fun h => .inr (.inr (.inr (.inr (h))))
            go_upto_region 27 with fail
            go_cut [144] (fun s wx => ∃ bb : Bool, s = .bool bb ∧ Hid (bb = true ↔ (x3 < 1 ∨ 1048576 < x3 ∨ x4 < 0 ∨ x5 < x4 ∨ 1099511627776 < x5)) ∧ wx = w6)
            case first =>
              by_cases hc0 : x3 < 1
              · as_aux_lemma =>
                go_wp2_with fail
                go_meet
                case rel => exact ⟨true, rfl, ⟨fun _ => HBd0.out hc0, fun _ => rfl⟩, rfl⟩
              have ec0 : decide (x3 < 1) = false := decide_eq_false hc0
              by_cases hc1 : 1048576 < x3
              · as_aux_lemma =>
                go_wp2_with fail
                go_meet
                case rel => exact ⟨true, rfl, ⟨fun _ => HBd1.out hc1, fun _ => rfl⟩, rfl⟩
              have ec1 : decide (1048576 < x3) = false := decide_eq_false hc1
              by_cases hc2 : x4 < 0
              · as_aux_lemma =>
                go_wp2_with fail
                go_meet
                case rel => exact ⟨true, rfl, ⟨fun _ => HBd2.out hc2, fun _ => rfl⟩, rfl⟩
              have ec2 : decide (x4 < 0) = false := decide_eq_false hc2
              by_cases hc3 : x5 < x4
              · as_aux_lemma =>
                go_wp2_with fail
                go_meet
                case rel => exact ⟨true, rfl, ⟨fun _ => HBd3.out hc3, fun _ => rfl⟩, rfl⟩
              have ec3 : decide (x5 < x4) = false := decide_eq_false hc3
              by_cases hc4 : 1099511627776 < x5
              · as_aux_lemma =>
                go_wp2_with fail
                go_meet
                case rel => exact ⟨true, rfl, ⟨fun _ => HBd4.out hc4, fun _ => rfl⟩, rfl⟩
              have ec4 : decide (1099511627776 < x5) = false := decide_eq_false hc4
              have HNb : Hid (¬ (x3 < 1 ∨ 1048576 < x3 ∨ x4 < 0 ∨ x5 < x4 ∨ 1099511627776 < x5)) := by show ¬ _; omega
              as_aux_lemma =>
              go_wp2_with fail
              go_meet
              case rel => exact ⟨false, rfl, ⟨fun h => (by cases h), fun h => absurd h HNb.out⟩, rfl⟩
            case rest =>
              obtain ⟨bb, rfl, Hbb, rfl⟩ := hcut
              clear HBd0 HBd1 HBd2 HBd3 HBd4
              go_upto_if 144 with fail
              go_cut [9, 16, 17] (fun s9 s16 s17 wx => s16 = .int .i64 ry ∧ s17 = .int .i64 rx ∧ ∃ m', SX w wx p R F6 L' s9 m')
              case first =>
                cases bb
                rotate_left
                · obtain ⟨rfl, rfl, rfl⟩ := res_bad HRes.out (Hbb.out.1 rfl)
                  clear HRes Hbb
                  as_aux_lemma =>
                  go_wp2_with fail
                  go_meet
                  case rel => exact ⟨rfl, rfl, m, H6.out, HS6.out, HPm.out, HSr.out⟩
                · have HNb : Hid (¬ (x3 < 1 ∨ 1048576 < x3 ∨ x4 < 0 ∨ x5 < x4 ∨ 1099511627776 < x5)) := fun h => by have := Hbb.out.2 h; cases this
                  clear Hbb
                  rcases HK2.out with ⟨rfl, hany⟩ | ⟨r, hr, rfl, _, hany⟩
                  rotate_left
                  · obtain ⟨rfl, rfl, rfl⟩ := res_twice HRes.out HNb.out hany
                    clear HRes HNb HK2 hany
                    as_aux_lemma =>
                    go_wp2_with fail
                    go_meet
                    case rel => exact ⟨rfl, rfl, m, H6.out, HS6.out, HPm.out, HSr.out⟩
                  · by_cases hfull : L.length = R
                    · obtain ⟨rfl, rfl, rfl⟩ := res_full HRes.out HNb.out hany hfull
                      have hfb : ((m.length : Int) == (R : Int)) = true := by have := HmL.out; simp; omega
                      clear HRes HNb HK2 hany hfull
                      as_aux_lemma =>
                      go_wp2_with fail
                      go_meet
                      case rel => exact ⟨rfl, rfl, m, H6.out, HS6.out, HPm.out, HSr.out⟩
                    · have hfb : ((m.length : Int) == (R : Int)) = false := by have := HmL.out; simp; omega
                      obtain ⟨n1, n2, n3, n4, n5⟩ : 1 ≤ x3 ∧ x3 ≤ 1048576 ∧ 0 ≤ x4 ∧ x4 ≤ x5 ∧ x5 ≤ 1099511627776 := by have := HNb.out; omega
                      have HE : Hid (∀ z, okP x2 x3 x4 x5 L z = true → (∀ y, z < y → okP x2 x3 x4 x5 L y = false) → z = rx ∧ 0 = ry ∧ L ++ [(x1, x2, z, z + x3)] = L') := fun z h1 h2 => res_at HRes.out HNb.out hany hfull h1 h2
                      have HEn : Hid ((∀ y, okP x2 x3 x4 x5 L y = false) → 0 = rx ∧ 4 = ry ∧ L = L') := fun h => res_no HRes.out HNb.out hany hfull h
                      have HZ0 : Hid (∀ y, x5 - x3 < y → okP x2 x3 x4 x5 L y = false) := fun y hy => okP_hi (by omega)
                      clear HRes HNb HK2 hany hfull
                      have hlm : m.length ≤ 9223372036854775807 := by omega
                      as_aux_lemma =>
                      obtain ⟨a6, c6, e6, hQ6, hHas6, hF6⟩ := HS6.out
                      simp only [Value.slice.injEq] at e6
                      obtain ⟨rfl, _, rfl⟩ := e6
                      have HQ6 := Lib.hid hQ6
                      clear hQ6 hHas6 hF6
                      have A3c := A3
                      have A4c := A4
                      have d0 := cell_newb wc #[.int .i64 x1, .int .i64 x2, .int .i64 (x5 - x3), .int .i64 x5] 59 _ 0 _ rfl rfl
                      have d1 := cell_newb wc #[.int .i64 x1, .int .i64 x2, .int .i64 (x5 - x3), .int .i64 x5] 59 _ 1 _ rfl rfl
                      have d2 := cell_newb wc #[.int .i64 x1, .int .i64 x2, .int .i64 (x5 - x3), .int .i64 x5] 59 _ 2 _ rfl rfl
                      have d3 := cell_newb wc #[.int .i64 x1, .int .i64 x2, .int .i64 (x5 - x3), .int .i64 x5] 59 _ 3 _ rfl rfl
                      have d4 : ∀ o, (wc.alloc (.cells #[.int .i64 x1, .int .i64 x2, .int .i64 (x5 - x3), .int .i64 x5] 59)).frozen? ⟨wc.heap.size, o, none⟩ = false := fun o => by simp
                      have d5 : Below wc.heap.size wc (wc.alloc (.cells #[.int .i64 x1, .int .i64 x2, .int .i64 (x5 - x3), .int .i64 x5] 59)) := bel_alloc (Below.refl _ _) _
                      have d6 : wc.heap.size < (wc.alloc (.cells #[.int .i64 x1, .int .i64 x2, .int .i64 (x5 - x3), .int .i64 x5] 59)).heap.size := by simp
                      have HD := Lib.hid (And.intro d0 (And.intro d1 (And.intro d2 (And.intro d3 (And.intro d4 (And.intro d5 d6))))))
                      have HA34 := Lib.hid (And.intro A3 A4)
                      clear d0 d1 d2 d3 d4 d5 d6 A3c A4c
                      go_wp2_with fail
                      clear A0 A1 A2 A3 A4 A5
                      generalize wc.alloc (.cells #[.int .i64 x1, .int .i64 x2, .int .i64 (x5 - x3), .int .i64 x5] 59) = w7 at *
                      go_loopw [] (fun wx => ∃ z : Int, -1048577 ≤ z ∧ z ≤ x5 - x3 ∧ Hid (∀ y, z < y → okP x2 x3 x4 x5 L y = false) ∧ Below wc.heap.size wc wx ∧ wc.heap.size < wx.heap.size ∧ wx.cell? ⟨wc.heap.size, 0, none⟩ = some (.int .i64 x1) ∧ wx.cell? ⟨wc.heap.size, 1, none⟩ = some (.int .i64 x2) ∧ wx.cell? ⟨wc.heap.size, 2, none⟩ = some (.int .i64 z) ∧ wx.cell? ⟨wc.heap.size, 3, none⟩ = some (.int .i64 (z + x3)) ∧ ∀ o, wx.frozen? ⟨wc.heap.size, o, none⟩ = false) (fun wx => (cI wx wc.heap.size 2 + 1 - x4).toNat)
                      case atStart => exact ⟨x5 - x3, by omega, by omega, HZ0, HD.out.2.2.2.2.2.1, HD.out.2.2.2.2.2.2, HD.out.1, HD.out.2.1, HD.out.2.2.1, by rw [show x5 - x3 + x3 = x5 by omega]; exact HD.out.2.2.2.1, HD.out.2.2.2.2.1⟩
                      case round =>
                        clear HD
                        obtain ⟨z, hz1, hz2, HZ, hb, hlt, c0, c1, c2, c3, hfz⟩ := hrel
                        have A3x := (hb.cell (p := ⟨bx, 3, none⟩) HLx6.out).trans HA34.out.1
                        have A4x := (hb.cell (p := ⟨bx, 4, none⟩) HLx6.out).trans HA34.out.2
                        have HA := apart_any wc.heap.size am m.length cm m x1 x2 z (z + x3) _ (HQ6.out.keep hb) hb.size hlm
                        have Hb := Lib.hid hb
                        have hci := cI_eq c2
                        clear hb
                        by_cases hz : x4 ≤ z
                        · cases hap : apM m (x1, x2, z, z + x3)
                          · rw [hap] at HA
                            have HA := Lib.hid HA
                            have HZ' : Hid (∀ y, z - 1 < y → okP x2 x3 x4 x5 L y = false) := fun y hy => by
                              by_cases e : y = z
                              · subst e; rw [okP_ap HPm.out hz (by omega), hap]
                              · exact HZ.out y (by omega)
                            clear hap HZ
                            as_aux_lemma =>
                            go_wp2_with fail
                            refine HA.out.mono ?_
                            rintro e w8 ⟨rfl, hb8⟩
                            have c0' := (hb8.cell (p := ⟨wc.heap.size, 0, none⟩) hlt).trans c0
                            have c1' := (hb8.cell (p := ⟨wc.heap.size, 1, none⟩) hlt).trans c1
                            have c2' := (hb8.cell (p := ⟨wc.heap.size, 2, none⟩) hlt).trans c2
                            have c3' := (hb8.cell (p := ⟨wc.heap.size, 3, none⟩) hlt).trans c3
                            have hfz' : ∀ o, w8.frozen? ⟨wc.heap.size, o, none⟩ = false := fun o => (hb8.frozen (p := ⟨wc.heap.size, o, none⟩) hlt).trans (hfz o)
                            have Hb8 := Lib.hid (Hb.out.trans (hb8.mono Hb.out.size))
                            have hlt8 := Nat.lt_of_lt_of_le hlt hb8.size
                            clear c0 c1 c2 c3 hfz hb8 Hb HA
                            go_wp2_with fail
                            go_roundw
                            case rel =>
                              obtain ⟨g0, g1, g2, g3⟩ := dec2 c0' c1' c2' c3'
                              exact ⟨z - 1, by omega, by omega, HZ'.out, (Hb8.out.setCell (Nat.le_refl _) _).setCell (Nat.le_refl _) _, by simpa [World.setCell] using hlt8, g0, g1, g2, g3, fun o => by rw [World.frozen?_setCell, World.frozen?_setCell]; exact hfz' o⟩
                            case measure =>
                              obtain ⟨g0, g1, g2, g3⟩ := dec2 c0' c1' c2' c3'
                              rw [cI_eq g2, hci]
                              omega
                          · rw [hap] at HA
                            have HA := Lib.hid HA
                            obtain ⟨e1, e2, e3⟩ := HE.out z ((okP_ap HPm.out hz (by omega)).trans hap) HZ.out
                            subst e1
                            subst e2
                            have HL := Lib.hid e3
                            clear hap HZ HE HEn e3
                            as_aux_lemma =>
                            go_wp2_with fail
                            refine HA.out.mono ?_
                            rintro e w8 ⟨rfl, hb8⟩
                            have c0' := (hb8.cell (p := ⟨wc.heap.size, 0, none⟩) hlt).trans c0
                            have c1' := (hb8.cell (p := ⟨wc.heap.size, 1, none⟩) hlt).trans c1
                            have c2' := (hb8.cell (p := ⟨wc.heap.size, 2, none⟩) hlt).trans c2
                            have c3' := (hb8.cell (p := ⟨wc.heap.size, 3, none⟩) hlt).trans c3
                            have A4y : w8.cell? ⟨bx, 4, none⟩ = some (.int .i64 x4) := (hb8.cell (p := ⟨bx, 4, none⟩) (Nat.lt_of_lt_of_le HLx6.out Hb.out.size)).trans A4x
                            have hb08 := Hb.out.trans (hb8.mono Hb.out.size)
                            have HP := Lib.hid (put_sl (d0 := x1) (d1 := x2) (d2 := z) (d3 := z + x3) (HS6.out.below hb08) (by omega) (fun k hk => Nat.lt_of_lt_of_le (H6.out.a.flt k hk).1 hb08.size))
                            have Hb08 := Lib.hid hb08
                            have hdz : decide (z < x4) = false := decide_eq_false (by omega)
                            clear c0 c1 c2 c3 hfz hb8 Hb HA hb08 A3x A4x
                            go_wp2_with fail
                            refine HP.out.mono ?_
                            rintro e w9 ⟨v, rfl, hS9, hb9⟩
                            have HX9 : Hid (SX w w9 p R F6 L' v (insS (x1, x2, z, z + x3) m)) := ⟨(H6.out.below Hb08.out).below hb9, hS9, by rw [← HL.out]; exact (insS_perm _ _).trans ((List.Perm.cons _ HPm.out).trans (List.perm_append_singleton _ _).symm), insS_srt HSr.out⟩
                            clear hS9 hb9 HP
                            go_wp2_with fail
                            go_meet
                            case rel => exact ⟨rfl, rfl, _, HX9.out⟩
                        · obtain ⟨e1, e2, e3⟩ := HEn.out (fun y => by
                            by_cases e : y ≤ z
                            · exact okP_lo (by omega)
                            · exact HZ.out y (by omega))
                          subst e1
                          subst e2
                          subst e3
                          have hdz : decide (z < x4) = true := decide_eq_true (by omega)
                          clear HZ HE HEn HA
                          as_aux_lemma =>
                          go_wp2_with fail
                          go_meet
                          case rel => exact ⟨rfl, rfl, m, H6.out.below Hb.out, HS6.out.below Hb.out, HPm.out, HSr.out⟩
              case rest =>
                obtain ⟨rfl, rfl, m', hX7⟩ := hcut
                obtain ⟨a7, c7, rfl, _, _, _⟩ := hX7.s
                have HAll := Lib.hid hX7.all
                clear hX7 HRes HPm HSr HBdd HmL HkI HK2 A0 A1 A2 A3 A4 A5 H6 HS6 Hbb
                as_aux_lemma =>
                go_wp2_with fail
                refine HAll.out.mono ?_
                rintro e w8 ⟨a8, c8, rfl, hq8, hX8⟩
                have HM : Hid (Calls Try.prog 36 #[.slice a8 m'.length c8, .slice a7 m'.length c7] w8 fun e w' => e = .returned (.bool true) ∧ Below w8.heap.size w8 w') := by
                  obtain ⟨a2, c2, e, hQ, _, _⟩ := hX8.s
                  simp only [Value.slice.injEq] at e
                  obtain ⟨rfl, _, rfl⟩ := e
                  exact sameS_any w8.heap.size a8 _ m'.length c8 _ m' w8 hq8 hQ (Nat.le_refl _) (by have := hX8.len.2; omega)
                have HX8 := Lib.hid hX8
                clear hq8 hX8 HAll
                go_wp2_with fail
                refine HM.out.mono ?_
                rintro e w9 ⟨rfl, hb9⟩
                have HX9 := Lib.hid (HX8.out.below hb9)
                clear hb9 HM HX8
                go_wp2_with fail
                go_roundw
                case rel => exact ⟨i + 1, L', m', F6, by omega, by go_num, HX9.out⟩
                case measure => simp [intOf]; omega
    · obtain ⟨wE, hwE⟩ : ∃ x, x = wr := ⟨_, rfl⟩
      subst hwE
      obtain ⟨am, cm, rfl, hQm, hHas, hFm⟩ := hX.s
      have hml := hX.len.2
      have HXE := Lib.hid hX
      have HQm := Lib.hid hQm
      have hb0 : Below wE.heap.size wE wE := Below.refl _ _
      obtain ⟨i0, ki, kz0, kz1, kz2⟩ := info_parts Try.info59
      have hl0 : (([] : List Q)).length = 0 := rfl
      clear hX hQm hHas hFm
      go_wp2_with fail
      go_loopw [19, 20] (fun sa sj wx => ∃ q : Nat, q ≤ m.length ∧ sj = .int .i64 q ∧ Hid (wx.ownsRow wE.heap.size 59 4 sa ((m.take q).filter fun x => !atOut tick x).length (((m.take q).filter fun x => !atOut tick x).flatMap qc)) ∧ Below wE.heap.size wE wx) (fun _ sj _ => m.length - (intOf sj).toNat)
      case atStart => exact ⟨0, Nat.zero_le _, rfl, World.ownsRow_nil _ _ _ _, hb0⟩
      case round =>
        clear hb0
        obtain ⟨q, hq, rfl, HO, hb⟩ := hrel
        by_cases hqm : q < m.length
        · obtain ⟨b2, o2, rfl, hbB, hcm⟩ := (HQm.out.keep hb).2 (by omega)
          have hc := hcm q hqm
          have m0 := hc.c0
          have m1 := hc.c1
          have m2 := hc.c2
          have m3 := hc.c3
          have hqI : (q : Int) < (m.length : Int) := by omega
          have HY : Hid (atOut tick m[q] = false → (m.take (q + 1)).filter (fun x => !atOut tick x) = (m.take q).filter (fun x => !atOut tick x) ++ [m[q]]) := fun e => filt_yes hqm e
          have HN : Hid (atOut tick m[q] = true → (m.take (q + 1)).filter (fun x => !atOut tick x) = (m.take q).filter (fun x => !atOut tick x)) := fun e => filt_no hqm e
          have hfl := filtA_len m q tick
          generalize m[q] = y at *
          obtain ⟨y0, y1, y2, y3⟩ := y
          have hao : atOut tick (y0, y1, y2, y3) = (decide (tick < y2) || decide (y3 ≤ tick)) := rfl
          rw [hao] at HY HN
          simp only at m0 m1 m2 m3
          have Hb := Lib.hid hb
          clear hc hcm hb hao
          by_cases h1 : y2 ≤ tick
          · by_cases h2 : tick < y3
            · have HR := Lib.hid (HY.out (by simp; omega))
              have hd1 : decide (y2 ≤ tick) = true := decide_eq_true h1
              have hd2 : decide (tick < y3) = true := decide_eq_true h2
              obtain ⟨n, hn⟩ : ∃ n, ((m.take q).filter fun x => !atOut tick x).length = n := ⟨_, rfl⟩
              have HN := Lib.hid hn
              rw [hn] at HO hfl
              clear HY hn
              obtain ⟨a9, c9, rfl⟩ := ownsRow_form HO.out
              have hsz := Hb.out.size
              as_aux_lemma =>
              go_wp2_with (at_builtin; refine wpList_append_own _ rfl _ _ 55 rfl wE.heap.size 59 i0 (.agg #[.int .i64 0, .int .i64 0, .int .i64 0, .int .i64 0]) 4 32 Try.underlying55 ki kz0 kz1 kz2 rfl (by decide) _ _ _ rfl (HO.out.alloc _) ⟨wr.heap.size, 0, none⟩ 1 1 (qc (y0, y1, y2, y3)) rfl rfl ?c1 ?c2 ?c3 ?c4 ?c5 ?_)
              case c1 => exact fun j u hu => cell_new _ _ _ j u hu
              case c2 => intro u hu; simp [qc] at hu; rcases hu with rfl | rfl | rfl | rfl <;> rfl
              case c3 => unfold maxLen; omega
              case c4 => omega
              case c5 => simp; omega
              intro v' w1 hown1 hgrow _
              have hbel1 : Below wE.heap.size wr w1 := (((Below.refl _ _).alloc hsz _).grown hgrow (by simp; omega) (fun j e => ownsRow_block HO.out j e))
              have Hb1 := Lib.hid (Hb.out.trans hbel1)
              have HO1 := Lib.hid hown1
              clear hown1 hgrow hbel1
              go_wp2_with fail
              go_roundw
              case rel => exact ⟨q + 1, by omega, by go_num, by
                rw [HR.out, List.length_append, List.length_singleton, HN.out, List.flatMap_append]
                show World.ownsRow _ _ _ _ _ _ _
                simpa using HO1.out, Hb1.out⟩
              case measure => simp [intOf]; omega
            · have hd1 : decide (y2 ≤ tick) = true := decide_eq_true h1
              have hd2 : decide (tick < y3) = false := decide_eq_false h2
              have HR := Lib.hid (HN.out (by simp; omega))
              clear HY HN
              as_aux_lemma =>
              go_wp2_with fail
              go_roundw
              case rel => exact ⟨q + 1, by omega, by go_num, by rw [HR.out]; exact HO, Hb.out⟩
              case measure => simp [intOf]; omega
          · have hd1 : decide (y2 ≤ tick) = false := decide_eq_false h1
            have HR := Lib.hid (HN.out (by simp; omega))
            clear HY HN
            as_aux_lemma =>
            go_wp2_with fail
            go_roundw
            case rel => exact ⟨q + 1, by omega, by go_num, by rw [HR.out]; exact HO, Hb.out⟩
            case measure => simp [intOf]; omega
        · obtain rfl : q = m.length := by omega
          rw [List.take_length] at HO
          obtain ⟨aa, ca, rfl⟩ := ownsRow_form HO.out
          have HX := HXE.out.below hb
          have HA := Lib.hid (HX.at_ tick)
          have HQa := Lib.hid (qs_of_own HO.out rfl)
          have HX := Lib.hid HX
          have hbw := HX.out.bel
          clear HO hb HQm HXE
          generalize hm' : (m.filter fun x => !atOut tick x) = m' at *
          have hl' : m'.length ≤ 256 := by rw [← hm']; exact Nat.le_trans (List.length_filter_le _ _) hml
          have HM' := Lib.hid hm'
          clear hm'
          go_wp2_with fail
          refine HA.out.mono ?_
          rintro e w8 ⟨a8, c8, rfl, hQ8, hb8⟩
          have HS := Lib.hid (sameS_any w8.heap.size a8 aa m'.length c8 ca m' w8 hQ8 ⟨HQa.out.1, fun h0 => by
            obtain ⟨b, off, e, hlt, hc⟩ := (HQa.out.keep hb8).2 h0
            exact ⟨b, off, e, Nat.lt_of_lt_of_le hlt hb8.size, hc⟩⟩ (Nat.le_refl _) (by omega))
          have Hb8 := Lib.hid (hbw.trans (hb8.mono hbw.size))
          have HX8 := Lib.hid (HX.out.below hb8)
          clear hQ8 hb8 HA HX HQa
          go_wp2_with fail
          refine HS.out.mono ?_
          rintro e w9 ⟨rfl, hb9⟩
          have HD := Lib.hid ((HX8.out.below hb9).depth tick)
          rw [HM'.out] at HD
          have Hb9 := Lib.hid (Hb8.out.trans (hb9.mono Hb8.out.size))
          clear hb9 HS HX8
          go_wp2_with fail
          refine HD.out.mono ?_
          rintro e w10 ⟨rfl, hb10⟩
          have Hb10 := Lib.hid (Hb9.out.trans (hb10.mono Hb9.out.size))
          clear HD hb10
          go_wp2_with fail
          go_ret
          exact ⟨by simp, Hb10.out⟩
end Go.Proofs.Ytaogdgbijjjpjaa
