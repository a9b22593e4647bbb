/- HeapModel: the walk. -/
import Derived.Test.YtaogdgbijjjpjaaHModM
namespace Go.Proofs.Ytaogdgbijjjpjaa
open Go.RowKit
set_option linter.unusedVariables false

set_option maxHeartbeats 8000000 in
set_option maxRecDepth 100000 in
theorem hmodel_walk (room : Int) (a : Option Addr) (n c : Nat) (l : List (Int × Q)) (w : World) (hl : AsIn w.heap.size w a n l) (hn : n ≤ 9223372036854775807) :
    Calls Try.prog 6 #[.int .i64 room, .slice a n c] w fun e w' => e = .returned (.bool true) ∧ Below w.heap.size w w' := by
  have hlen := hl.1
  by_cases hbig : 300 < n
  · go_enter Try.func6, Try.ntmps6
    go_wp2_with fail
    refine (hawake_any _).mono ?_
    rintro e w1 ⟨rfl, hb1⟩
    go_wp2_with fail
    refine (hawake_any _).mono ?_
    rintro e w2 ⟨rfl, hb2⟩
    go_wp2_with fail
    go_ret
    exact ⟨rfl, hb1.trans (hb2.mono hb1.size)⟩
  · have hn3 : n ≤ 300 := by omega
    by_cases hbad : room < 1 ∨ 1024 < room
    · by_cases h1 : room < 1
      · go_enter Try.func6, Try.ntmps6
        go_wp2_with fail
        refine (hawake_any _).mono ?_
        rintro e w1 ⟨rfl, hb1⟩
        go_wp2_with fail
        refine (hnew_bad room _ hbad).mono ?_
        rintro e w2 ⟨rfl, rfl⟩
        go_wp2_with fail
        go_ret
        exact ⟨rfl, hb1⟩
      · have h1' : 1 ≤ room := by omega
        have h2' : 1024 < room := by omega
        go_enter Try.func6, Try.ntmps6
        go_wp2_with fail
        refine (hawake_any _).mono ?_
        rintro e w1 ⟨rfl, hb1⟩
        go_wp2_with fail
        refine (hnew_bad room _ hbad).mono ?_
        rintro e w2 ⟨rfl, rfl⟩
        go_wp2_with fail
        go_ret
        exact ⟨rfl, hb1⟩
    · have h1 : 1 ≤ room := by omega
      have h2 : room ≤ 1024 := by omega
      obtain ⟨R, hR⟩ : ∃ R : Nat, room = (R : Int) := ⟨room.toNat, by omega⟩
      subst hR
      clear hbig hbad
      go_enter Try.func6, Try.ntmps6
      go_wp2_with fail
      refine (hawake_any _).mono ?_
      rintro e w1 ⟨rfl, hb1⟩
      go_wp2_with fail
      refine (HO.new hb1 R (by omega) (by omega)).mono ?_
      rintro e w2 ⟨p, F2, rfl, hW, _, _⟩
      go_wp2_with fail
      go_loopw [7, 8] (fun sm si wr => ∃ (k : Nat) (m : List Q) (F : Nat → Prop), k ≤ n ∧ si = .int .i64 k ∧ HX w wr p R F m sm m) (fun _ si _ => n - (intOf si).toNat)
      case atStart => exact ⟨0, [], F2, Nat.zero_le _, rfl, hW, Sl.nil _ _⟩
      case round =>
        clear hb1 hW
        obtain ⟨k, m, F, hk, rfl, hX⟩ := hrel
        by_cases hlt : k < n
        · obtain ⟨b, off, rfl, hbB, hcc⟩ := (hl.keep hX.bel).2 (by omega)
          have HA : Hid (∀ W, Below w.heap.size w W → A5 W b (off + k * 5) (l[k]'(by omega))) := fun W hb => by
            obtain ⟨b', off', e, _, hc⟩ := (hl.keep hb).2 (by omega)
            cases e
            exact hc k (by omega)
          generalize (l[k]'(by omega)) = act at *
          obtain ⟨do_, x0, x1, x2, x3⟩ := act
          have HL := Lib.hid hl
          have hkI : (k : Int) < (n : Int) := by omega
          have hmR := hX.a.len_.1
          have hsl := hX.s
          obtain ⟨a2, c2, rfl, _⟩ := hsl
          obtain ⟨A0, A1, A2, A3, A4⟩ := HA.out _ hX.bel
          simp only at A0 A1 A2 A3 A4
          have hF := Lib.hid (hX.find rfl (by omega) x3)
          clear hcc hl hX
          go_wp2_with fail
          refine hF.out.mono ?_
          rintro e w3 ⟨kk, rfl, hidx, hX3⟩
          clear A0 A1 A2 A3 A4 hF
          obtain ⟨A0, A1, A2, A3, A4⟩ := HA.out _ hX3.bel
          simp only at A0 A1 A2 A3 A4
          have HI := Lib.hid (idx_two hidx)
          have hX4 := Lib.hid hX3
          have Hids := Lib.hid hX3.a.a.ids
          clear hidx hX3
          go_upto_if 65 with fail
          go_cut [7] (fun s7 wx => ∃ (m' : List Q) (F' : Nat → Prop), HX w wx p R F' m' s7 m')
          case first =>
            by_cases hd0 : do_ = 0
            · subst hd0
              rcases HI.out with ⟨rfl, hany⟩ | ⟨q, hq, rfl, hid, hany⟩
              · by_cases hfull : m.length = R
                · as_aux_lemma =>
                  have hA := Lib.hid (hX4.out.push (a := x0) (b := x1) (c := x2) (d := x3) (r := 3) (m' := m) (by unfold pushM; rw [if_neg (by simp [hany]), if_pos (by omega)]))
                  have hfb : ((m.length : Int) == (R : Int)) = true := by simp; omega
                  clear HI hany hfull
                  go_wp2_with fail
                  refine hA.out.mono ?_
                  rintro e w5 ⟨rfl, F5, hX5⟩
                  go_wp2_with fail
                  go_meet
                  case rel => exact ⟨m, F5, hX5⟩
                · as_aux_lemma =>
                  have hE := Lib.hid (pushM_new (k := (x0, x1, x2, x3)) hany (by omega : m.length < R))
                  have hfb : ((m.length : Int) == (R : Int)) = false := by simp; omega
                  have hPt := Lib.hid (hX4.out.put (x0 := x0) (x1 := x1) (x2 := x2) (x3 := x3) rfl (by omega))
                  clear HI hany hfull
                  go_wp2_with fail
                  refine hPt.out.mono ?_
                  rintro e w5 ⟨v5, rfl, hX5, hb5⟩
                  clear A0 A1 A2 A3 A4
                  obtain ⟨A0, A1, A2, A3, A4⟩ := HA.out _ hX5.bel
                  simp only at A0 A1 A2 A3 A4
                  have hA := Lib.hid (hX5.push hE.out)
                  clear hX5 hb5 hPt
                  go_wp2_with fail
                  refine hA.out.mono ?_
                  rintro e w6 ⟨rfl, F6, hX6⟩
                  go_wp2_with fail
                  go_meet
                  case rel => exact ⟨_, F6, hX6⟩
              · as_aux_lemma =>
                have hA := Lib.hid (hX4.out.push (a := x0) (b := x1) (c := x2) (d := x3) (r := 7) (m' := m) (pushM_some hany))
                have hq0 : (0 : Int) ≤ (q : Int) := by omega
                clear HI hany hid
                go_wp2_with fail
                refine hA.out.mono ?_
                rintro e w5 ⟨rfl, F5, hX5⟩
                go_wp2_with fail
                go_meet
                case rel => exact ⟨m, F5, hX5⟩
            · have hd0b : (do_ == 0) = false := by simpa using hd0
              by_cases hd1 : do_ = 1
              · subst hd1
                clear hd0 hd0b HI
                cases m with
                | nil =>
                  as_aux_lemma =>
                  have hP := hX4.out.pop
                  unfold peekM qv at hP
                  simp only [List.tail_nil] at hP
                  have HP := Lib.hid hP
                  clear hP
                  go_wp2_with fail
                  refine HP.out.mono ?_
                  rintro e w5 ⟨rfl, hX5⟩
                  have hX6 := Lib.hid (hX5.below (bel_alloc (Below.refl w5.heap.size w5) (.cells #[.int .i64 0, .int .i64 0, .int .i64 0, .int .i64 0] 23)))
                  have hk6 := C4.new w5 w5.heap.size 0 0 0 0 23 rfl
                  obtain ⟨u0, u1, u2, u3⟩ := hk6
                  clear hX5 HP
                  go_wp2_with fail
                  go_quiet (fail)
                  go_wp2_with fail
                  go_meet
                  case rel => exact ⟨[], F, hX6.out.below (bel_drewN (Below.refl _ _) _)⟩
                | cons x m =>
                  as_aux_lemma =>
                  obtain ⟨y0, y1, y2, y3⟩ := x
                  have hP := hX4.out.pop
                  unfold peekM qv at hP
                  simp only [List.tail_cons] at hP
                  have HP := Lib.hid hP
                  clear hP
                  go_wp2_with fail
                  refine HP.out.mono ?_
                  rintro e w5 ⟨rfl, hX5⟩
                  have hX6 := hX5.below (bel_alloc (Below.refl w5.heap.size w5) (.cells #[.int .i64 y0, .int .i64 y1, .int .i64 y2, .int .i64 y3] 23))
                  obtain ⟨b4, o4, rfl, hm4, hc4, hX7, q0, q1, q2, q3⟩ := hX6.tail rfl
                  obtain ⟨u0, u1, u2, u3⟩ := C4.new w5 w5.heap.size y0 y1 y2 y3 23 rfl
                  rw [List.length_cons] at hm4
                  have hml0 : (0 : Int) < ((m.length + 1 : Nat) : Int) := by omega
                  have hml1 : (1 : Int) ≤ ((m.length + 1 : Nat) : Int) := by omega
                  have hml2 : ((m.length + 1 : Nat) : Int) ≤ (c2 : Int) := by omega
                  simp only at q0 q1 q2 q3
                  by_cases hc1 : c2 = 1
                  · subst hc1
                    obtain rfl : m = [] := List.eq_nil_of_length_eq_zero (by omega)
                    have HX7 : Hid (HX w (w5.alloc (.cells #[.int .i64 y0, .int .i64 y1, .int .i64 y2, .int .i64 y3] 23)) p R F [] (.slice (some ⟨b4, o4, none⟩) 0 0) []) := by
                      show HX _ _ _ _ _ _ _ _
                      simpa using hX7
                    clear hX5 hX6 HP hX7
                    go_wp2_with fail
                    go_quiet (fail)
                    go_wp2_with fail
                    go_meet
                    case rel => exact ⟨[], F, HX7.out.below (bel_drewN (Below.refl _ _) _)⟩
                  · have HX7 : Hid (HX w (w5.alloc (.cells #[.int .i64 y0, .int .i64 y1, .int .i64 y2, .int .i64 y3] 23)) p R F m (.slice (some ⟨b4, o4 + 4, none⟩) m.length (c2 - 1)) m) := by
                      show HX _ _ _ _ _ _ _ _
                      rw [if_neg hc1] at hX7
                      simpa using hX7
                    clear hX5 hX6 HP hX7
                    go_wp2_with fail
                    go_quiet (fail)
                    go_wp2_with fail
                    go_meet
                    case rel => exact ⟨m, F, HX7.out.below (bel_drewN (Below.refl _ _) _)⟩
              · have hd1b : (do_ == 1) = false := by simpa using hd1
                by_cases hd2 : do_ = 2
                · subst hd2
                  clear hd0 hd0b hd1 hd1b
                  rcases HI.out with ⟨rfl, hany⟩ | ⟨q, hq, rfl, hid, hany⟩
                  · as_aux_lemma =>
                    have hC := Lib.hid (hX4.out.remove hany (filter_noneK hany))
                    clear HI hany
                    go_wp2_with fail
                    refine hC.out.mono ?_
                    rintro e w5 ⟨rfl, hX5⟩
                    go_wp2_with fail
                    go_meet
                    case rel => exact ⟨m, F, hX5⟩
                  · as_aux_lemma =>
                    have hC := Lib.hid (hX4.out.remove hany (m' := m.take q ++ m.drop (q + 1)) (by rw [← hid]; exact filter_at Hids.out q hq))
                    have hq0 : (0 : Int) ≤ (q : Int) := by omega
                    clear HI hany hid
                    go_wp2_with fail
                    refine hC.out.mono ?_
                    rintro e w5 ⟨rfl, hX5⟩
                    have hV := Lib.hid (hX5.without rfl (by omega) hq)
                    clear hX5 hC
                    go_wp2_with fail
                    refine hV.out.mono ?_
                    rintro e w6 ⟨a6, c6, rfl, hX6, hb6⟩
                    go_wp2_with fail
                    go_meet
                    case rel => exact ⟨_, F, hX6⟩
                · have hd2b : (do_ == 2) = false := by simpa using hd2
                  clear hd0 hd1 hd2
                  rcases HI.out with ⟨rfl, hany⟩ | ⟨q, hq, rfl, hid, hany⟩
                  · as_aux_lemma =>
                    have hC := Lib.hid (hX4.out.change (a := x0) (b := x1) (c := x2) (d := x3) hany (m' := m) (by unfold chgM; rw [if_neg (by simp [hany])]))
                    clear HI hany
                    go_wp2_with fail
                    refine hC.out.mono ?_
                    rintro e w5 ⟨rfl, hX5⟩
                    go_wp2_with fail
                    go_meet
                    case rel => exact ⟨m, F, hX5⟩
                  · have hC := Lib.hid (hX4.out.change (a := x0) (b := x1) (c := x2) (d := x3) hany (m' := insK (x0, x1, x2, x3) (m.take q ++ m.drop (q + 1))) (by unfold chgM; rw [if_pos hany]; rw [show (m.filter fun x => !(x.2.2.2 == ((x0, x1, x2, x3) : Q).2.2.2)) = m.take q ++ m.drop (q + 1) from (by rw [← filter_at Hids.out q hq, hid])]))
                    have hq0 : (0 : Int) ≤ (q : Int) := by omega
                    clear HI hany hid
                    go_wp2_with fail
                    refine hC.out.mono ?_
                    rintro e w5 ⟨rfl, hX5⟩
                    have HV : Hid (∀ W, Below w5.heap.size w5 W → Calls Try.prog 27 #[.slice a2 m.length c2, .int .i64 q] W fun e w' => ∃ (a' : Option Addr) (c' : Nat), e = .returned (.slice a' (m.length - 1) c') ∧ HX w w' p R F (insK (x0, x1, x2, x3) (m.take q ++ m.drop (q + 1))) (.slice a' (m.length - 1) c') (m.take q ++ m.drop (q + 1)) ∧ Below w5.heap.size w5 w') := fun W hb => ((hX5.below hb).without rfl (by omega) hq).mono fun _ _ ⟨a', c', he, hx, hb'⟩ => ⟨a', c', he, hx, hb.trans (hb'.mono hb.size)⟩
                    have HK : Hid (∀ W, Below w5.heap.size w5 W → A5 W b (off + k * 5) (do_, x0, x1, x2, x3) ∧ Below w5.heap.size w5 W) := fun W hb => ⟨HA.out _ (hX5.bel.trans (hb.mono hX5.bel.size)), hb⟩
                    have hbr : Below w5.heap.size w5 w5 := Below.refl _ _
                    have hll : m.length - 1 = (m.take q ++ m.drop (q + 1)).length := by rw [List.length_append, List.length_take, List.length_drop]; omega
                    have hll2 : (m.take q ++ m.drop (q + 1)).length ≤ 1024 := by omega
                    have HLL := Lib.hid hll
                    have HLL2 := Lib.hid hll2
                    clear hC hX5 A0 A1 A2 A3 A4 hll hll2
                    generalize m.take q ++ m.drop (q + 1) = mf at *
                    go_upto_region 36 with fail
                    go_region_held3 (fun w' => (w'.cell? ⟨b, off + k * 5 + 1, none⟩ = some (.int .i64 x0) ∧ w'.cell? ⟨b, off + k * 5 + 2, none⟩ = some (.int .i64 x1) ∧ w'.cell? ⟨b, off + k * 5 + 3, none⟩ = some (.int .i64 x2) ∧ w'.cell? ⟨b, off + k * 5 + 4, none⟩ = some (.int .i64 x3)) ∧ Below w5.heap.size w5 w')
                      ((first | (obtain ⟨⟨z0, z1, z2, z3, z4⟩, z9⟩ := HK.out _ (bel_drew hbr); exact ⟨⟨z1, z2, z3, z4⟩, z9⟩) | (obtain ⟨⟨z0, z1, z2, z3, z4⟩, z9⟩ := HK.out _ (by assumption); exact ⟨⟨z1, z2, z3, z4⟩, z9⟩)))
                      ((first | (go_at_call 27; refine Calls.mono (HV.out _ ?_) ?_; (first | assumption | exact bel_drew hbr); rintro e w6 ⟨a6, c6, rfl, hX6, hP6⟩) | (go_at_call 25; refine Calls.mono (HX.put hX6 HLL.out HLL2.out) ?_; rintro e w7 ⟨v7, rfl, hX7, hb7⟩; have hP7 := hP6.trans (hb7.mono hP6.size))))
                    go_wp2_with fail
                    go_meet
                    case rel => exact ⟨_, F, hX7⟩
          case rest =>
            obtain ⟨m', F', hX'⟩ := hcut
            cases m' with
            | nil =>
              obtain ⟨a7, c7, rfl, _⟩ := hX'.s
              have hP := hX'.peek
              unfold peekM qv at hP
              simp only [List.length_nil] at hP
              have hm8 := hX'.a.len_
              have HP := Lib.hid hP
              clear hP hX'
              go_wp2_with fail
              refine HP.out.mono ?_
              rintro e w5 ⟨rfl, hX5⟩
              have hX6 := hX5.below (bel_alloc (Below.refl w5.heap.size w5) (.cells #[.int .i64 0, .int .i64 0, .int .i64 0, .int .i64 0] 23))
              have hk6 := C4.new w5 w5.heap.size 0 0 0 0 23 rfl
              go_upto_region 38 with fail
              generalize w5.alloc (.cells #[.int .i64 0, .int .i64 0, .int .i64 0, .int .i64 0] 23) = w6 at *
              generalize w5.heap.size = bx at *
              have hbr : Below w6.heap.size w6 w6 := Below.refl _ _
              have HX6 := Lib.hid hX6
              have HK : Hid (∀ W, Below w6.heap.size w6 W → C4 W bx 0 0 0 0 ∧ Below w6.heap.size w6 W) := fun W hb => ⟨hk6.below hb, hb⟩
              have HLn : Hid (∀ W, Below w6.heap.size w6 W → Calls Try.prog 22 #[.pointer (some ⟨p, 0, none⟩)] W fun e w' => e = .returned (.int .i64 ((0 : Nat) : Int)) ∧ Below w6.heap.size w6 w') := fun W hb => (hlen_m (HX6.out.below hb).a.a).mono fun _ _ ⟨he, hw⟩ => ⟨he, hw ▸ hb⟩
              have HSr : Hid (∀ W, Below w6.heap.size w6 W → Calls Try.prog 19 #[.pointer (some ⟨p, 0, none⟩)] W fun e w' => ∃ (a : Option Addr) (c : Nat), e = .returned (.slice a 0 c) ∧ QsIn w'.heap.size w' a 0 [] ∧ Below w6.heap.size w6 w') := fun W hb => (sorted_m (HX6.out.below hb).a.a).mono fun _ _ ⟨a, c, he, ho, hb'⟩ => ⟨a, c, he, qs_of_own ho rfl, hb.trans (hb'.mono hb.size)⟩
              have HSm : Hid (∀ W (a : Option Addr) (c : Nat), Below w6.heap.size w6 W → QsIn W.heap.size W a 0 [] → Calls Try.prog 20 #[.slice a 0 c, .slice a7 0 c7] W fun e w' => e = .returned (.bool true) ∧ Below w6.heap.size w6 w') := by
                intro W a c hb hq
                have hs := (HX6.out.below hb).s
                obtain ⟨a9, c9, e9, hQ9, _, _⟩ := hs
                simp only [Value.slice.injEq] at e9
                obtain ⟨rfl, _, rfl⟩ := e9
                exact (same_any W.heap.size _ _ 0 c c7 _ W hq hQ9 (Nat.le_refl _) (by omega)).mono fun _ _ ⟨he, hb'⟩ => ⟨he, hb.trans (hb'.mono hb.size)⟩
              clear hX5 hX6 hk6
              refine wp_region_held_drew (S := fun w' => (w'.cell? ⟨bx, 0, none⟩ = some (.int .i64 0) ∧ w'.cell? ⟨bx, 1, none⟩ = some (.int .i64 0) ∧ w'.cell? ⟨bx, 2, none⟩ = some (.int .i64 0) ∧ w'.cell? ⟨bx, 3, none⟩ = some (.int .i64 0)) ∧ Below w6.heap.size w6 w') (by kernel_rfl) ?hS1 (fun hHeld => ?_)
              case hS1 => (try dsimp only); (first | (obtain ⟨⟨z0, z1, z2, z3⟩, z9⟩ := HK.out _ (bel_drew hbr); exact ⟨⟨z0, z1, z2, z3⟩, z9⟩) | (obtain ⟨⟨z0, z1, z2, z3⟩, z9⟩ := HK.out _ (by assumption); exact ⟨⟨z0, z1, z2, z3⟩, z9⟩))
              refine wpAnyH_take (i := 0) (oi := { dst := some 174, op := Op.move (Operand.tmp 5), type := 28, pos := "law.go:81", after := #[], guard := none }) (v := ?vv2) rfl (by kernel_rfl) (by kernel_rfl) (by kernel_rfl) (fun _ _ _ h => h) (Or.inl ⟨by rfl, ?hy2⟩) (by assumption) ?hr2
              case hy2 => (intro wS hSw; (try dsimp only at hSw); go_simp; try with_reducible rfl)
              try simp only [Act.put, List.setIfInBounds_toArray, List.set_cons_zero, List.set_cons_succ]
              refine wpAnyH_take (i := 2) (oi := { dst := some 176, op := Op.move (Operand.tmp 7), type := 27, pos := "law.go:81", after := #[], guard := none }) (v := ?vv3) rfl (by kernel_rfl) (by kernel_rfl) (by kernel_rfl) (fun _ _ _ h => h) (Or.inl ⟨by rfl, ?hy3⟩) (by assumption) ?hr3
              case hy3 => (intro wS hSw; (try dsimp only at hSw); go_simp; try with_reducible rfl)
              try simp only [Act.put, List.setIfInBounds_toArray, List.set_cons_zero, List.set_cons_succ]
              refine wpAnyH_take (i := 3) (oi := { dst := some 177, op := Op.call { callee := Callee.builtin Builtin.len, args := #[Operand.tmp 176], argTypes := #[27] }, type := 3, pos := "law.go:81", after := #[{ on := 2, ground := Ground.data }], guard := none }) (v := ?vv4) rfl (by kernel_rfl) (by kernel_rfl) (by kernel_rfl) (fun _ _ _ h => h) (Or.inl ⟨by rfl, ?hy4⟩) (by assumption) ?hr4
              case hy4 => (intro wS hSw; (try dsimp only at hSw); go_simp; try with_reducible rfl)
              try simp only [Act.put, List.setIfInBounds_toArray, List.set_cons_zero, List.set_cons_succ]
              refine wpAnyH_ready (rs := [1]) (by kernel_rfl) (by simp) ?_
              refine AllReadyH.cons (o := { dst := some 175, op := Op.call { callee := Callee.value (Operand.func 22), args := #[Operand.tmp 174], argTypes := #[28] }, type := 3, pos := "law.go:81", after := #[{ on := 0, ground := Ground.data }], guard := none }) rfl (fun K hK => ?_) AllReadyH.nil
              go_simp
              (go_at_call 22; refine Calls.mono (HLn.out _ ?_) ?_; (first | assumption | exact bel_drew hbr); rintro e w7 ⟨rfl, hP7⟩)
              try go_wp2_with fail
              refine hK.out _ _ ?hS5 (fun hHeld => ?hr5)
              case hS5 => (try dsimp only); (first | (obtain ⟨⟨z0, z1, z2, z3⟩, z9⟩ := HK.out _ (bel_drew hbr); exact ⟨⟨z0, z1, z2, z3⟩, z9⟩) | (obtain ⟨⟨z0, z1, z2, z3⟩, z9⟩ := HK.out _ (by assumption); exact ⟨⟨z0, z1, z2, z3⟩, z9⟩))
              clear hK K
              try simp only [Act.put, List.setIfInBounds_toArray, List.set_cons_zero, List.set_cons_succ]
              refine wpAnyH_take (i := 4) (oi := { dst := some 178, op := Op.binOp BinOp.neq 3 (Operand.tmp 175) (Operand.tmp 177) 3, type := 4, pos := "law.go:81", after := #[{ on := 1, ground := Ground.data }, { on := 3, ground := Ground.data }], guard := none }) (v := ?vv6) rfl (by kernel_rfl) (by kernel_rfl) (by kernel_rfl) (fun _ _ _ h => h) (Or.inl ⟨by rfl, ?hy6⟩) (by assumption) ?hr6
              case hy6 => (intro wS hSw; (try dsimp only at hSw); go_simp; try with_reducible rfl)
              try simp only [Act.put, List.setIfInBounds_toArray, List.set_cons_zero, List.set_cons_succ]
              refine wpAnyH_take (i := 5) (oi := { dst := some 179, op := Op.move (Operand.tmp 178), type := 4, pos := "law.go:81", after := #[{ on := 4, ground := Ground.data }, { on := 1, ground := Ground.chain }], guard := none }) (v := ?vv7) rfl (by kernel_rfl) (by kernel_rfl) (by kernel_rfl) (fun _ _ _ h => h) (Or.inl ⟨by rfl, ?hy7⟩) (by assumption) ?hr7
              case hy7 => (intro wS hSw; (try dsimp only at hSw); go_simp; try with_reducible rfl)
              try simp only [Act.put, List.setIfInBounds_toArray, List.set_cons_zero, List.set_cons_succ]
              refine wpAnyH_take (i := 6) (oi := { dst := some 180, op := Op.move (Operand.tmp 14), type := 4, pos := "law.go:81", after := #[{ on := 5, ground := Ground.guard }], guard := some (5, false) }) (v := ?vv8) rfl (by kernel_rfl) (by kernel_rfl) (by kernel_rfl) (fun _ _ _ h => h) (Or.inl ⟨by rfl, ?hy8⟩) (by assumption) ?hr8
              case hy8 => (intro wS hSw; (try dsimp only at hSw); go_simp; try with_reducible rfl)
              try simp only [Act.put, List.setIfInBounds_toArray, List.set_cons_zero, List.set_cons_succ]
              refine wpAnyH_take (i := 7) (oi := { dst := some 181, op := Op.move (Operand.tmp 7), type := 27, pos := "law.go:81", after := #[{ on := 5, ground := Ground.guard }], guard := some (5, false) }) (v := ?vv9) rfl (by kernel_rfl) (by kernel_rfl) (by kernel_rfl) (fun _ _ _ h => h) (Or.inl ⟨by rfl, ?hy9⟩) (by assumption) ?hr9
              case hy9 => (intro wS hSw; (try dsimp only at hSw); go_simp; try with_reducible rfl)
              try simp only [Act.put, List.setIfInBounds_toArray, List.set_cons_zero, List.set_cons_succ]
              refine wpAnyH_take (i := 8) (oi := { dst := some 182, op := Op.call { callee := Callee.builtin Builtin.len, args := #[Operand.tmp 181], argTypes := #[27] }, type := 3, pos := "law.go:81", after := #[{ on := 7, ground := Ground.data }, { on := 5, ground := Ground.guard }], guard := some (5, false) }) (v := ?vv10) rfl (by kernel_rfl) (by kernel_rfl) (by kernel_rfl) (fun _ _ _ h => h) (Or.inl ⟨by rfl, ?hy10⟩) (by assumption) ?hr10
              case hy10 => (intro wS hSw; (try dsimp only at hSw); go_simp; try with_reducible rfl)
              try simp only [Act.put, List.setIfInBounds_toArray, List.set_cons_zero, List.set_cons_succ]
              refine wpAnyH_take (i := 9) (oi := { dst := some 183, op := Op.binOp BinOp.gtr 3 (Operand.tmp 182) (Operand.const (Value.int IntKind.i64 0)) 3, type := 4, pos := "law.go:81", after := #[{ on := 8, ground := Ground.data }, { on := 5, ground := Ground.guard }], guard := some (5, false) }) (v := ?vv11) rfl (by kernel_rfl) (by kernel_rfl) (by kernel_rfl) (fun _ _ _ h => h) (Or.inl ⟨by rfl, ?hy11⟩) (by assumption) ?hr11
              case hy11 => (intro wS hSw; (try dsimp only at hSw); go_simp; try with_reducible rfl)
              try simp only [Act.put, List.setIfInBounds_toArray, List.set_cons_zero, List.set_cons_succ]
              refine wpAnyH_take (i := 10) (oi := { dst := some 184, op := Op.binOp BinOp.neq 4 (Operand.tmp 180) (Operand.tmp 183) 4, type := 4, pos := "law.go:81", after := #[{ on := 6, ground := Ground.data }, { on := 9, ground := Ground.data }, { on := 5, ground := Ground.guard }], guard := some (5, false) }) (v := ?vv12) rfl (by kernel_rfl) (by kernel_rfl) (by kernel_rfl) (fun _ _ _ h => h) (Or.inl ⟨by rfl, ?hy12⟩) (by assumption) ?hr12
              case hy12 => (intro wS hSw; (try dsimp only at hSw); go_simp; try with_reducible rfl)
              try simp only [Act.put, List.setIfInBounds_toArray, List.set_cons_zero, List.set_cons_succ]
              refine wpAnyH_take (i := 11) (oi := { dst := some 185, op := Op.pick (Operand.tmp 179) (Operand.const (Value.bool true)) (Operand.tmp 184), type := 4, pos := "law.go:81", after := #[{ on := 5, ground := Ground.data }, { on := 10, ground := Ground.data }], guard := none }) (v := ?vv13) rfl (by kernel_rfl) (by kernel_rfl) (by kernel_rfl) (fun _ _ _ h => h) (Or.inl ⟨by rfl, ?hy13⟩) (by assumption) ?hr13
              case hy13 => (intro wS hSw; (try dsimp only at hSw); go_simp; try with_reducible rfl)
              try simp only [Act.put, List.setIfInBounds_toArray, List.set_cons_zero, List.set_cons_succ]
              refine wpAnyH_take (i := 12) (oi := { dst := some 186, op := Op.move (Operand.tmp 185), type := 4, pos := "law.go:81", after := #[{ on := 11, ground := Ground.data }, { on := 5, ground := Ground.chain }], guard := none }) (v := ?vv14) rfl (by kernel_rfl) (by kernel_rfl) (by kernel_rfl) (fun _ _ _ h => h) (Or.inl ⟨by rfl, ?hy14⟩) (by assumption) ?hr14
              case hy14 => (intro wS hSw; (try dsimp only at hSw); go_simp; try with_reducible rfl)
              try simp only [Act.put, List.setIfInBounds_toArray, List.set_cons_zero, List.set_cons_succ]
              refine wpAnyH_take (i := 13) (oi := { dst := some 187, op := Op.move (Operand.tmp 14), type := 4, pos := "law.go:81", after := #[{ on := 12, ground := Ground.guard }], guard := some (12, false) }) (v := ?vv15) rfl (by kernel_rfl) (by kernel_rfl) (by kernel_rfl) (fun _ _ _ h => h) (Or.inl ⟨by rfl, ?hy15⟩) (by assumption) ?hr15
              case hy15 => (intro wS hSw; (try dsimp only at hSw); go_simp; try with_reducible rfl)
              try simp only [Act.put, List.setIfInBounds_toArray, List.set_cons_zero, List.set_cons_succ]
              refine wpAnyH_take (i := 14) (oi := { dst := some 188, op := Op.move (Operand.tmp 187), type := 4, pos := "law.go:81", after := #[{ on := 13, ground := Ground.data }, { on := 12, ground := Ground.chain }, { on := 12, ground := Ground.guard }], guard := some (12, false) }) (v := ?vv16) rfl (by kernel_rfl) (by kernel_rfl) (by kernel_rfl) (fun _ _ _ h => h) (Or.inl ⟨by rfl, ?hy16⟩) (by assumption) ?hr16
              case hy16 => (intro wS hSw; (try dsimp only at hSw); go_simp; try with_reducible rfl)
              try simp only [Act.put, List.setIfInBounds_toArray, List.set_cons_zero, List.set_cons_succ]
              refine wpAnyH_take (i := 15) (oi := { dst := some 189, op := Op.load 23 (Operand.tmp 13), type := 23, pos := "law.go:81", after := #[{ on := 14, ground := Ground.guard }], guard := some (14, true) }) (v := undef) rfl (by kernel_rfl) (by kernel_rfl) (by kernel_rfl) (fun _ _ _ h => h) (Or.inr ⟨by rfl, rfl⟩) (by assumption) ?_
              try simp only [Act.put, List.setIfInBounds_toArray, List.set_cons_zero, List.set_cons_succ]
              refine wpAnyH_take (i := 16) (oi := { dst := some 190, op := Op.move (Operand.tmp 7), type := 27, pos := "law.go:81", after := #[{ on := 14, ground := Ground.guard }], guard := some (14, true) }) (v := undef) rfl (by kernel_rfl) (by kernel_rfl) (by kernel_rfl) (fun _ _ _ h => h) (Or.inr ⟨by rfl, rfl⟩) (by assumption) ?_
              try simp only [Act.put, List.setIfInBounds_toArray, List.set_cons_zero, List.set_cons_succ]
              refine wpAnyH_take (i := 17) (oi := { dst := some 191, op := Op.indexAddr 27 (Operand.tmp 190) (Operand.const (Value.int IntKind.i64 0)), type := 0, pos := "law.go:81", after := #[{ on := 16, ground := Ground.data }, { on := 14, ground := Ground.guard }], guard := some (14, true) }) (v := undef) rfl (by kernel_rfl) (by kernel_rfl) (by kernel_rfl) (fun _ _ _ h => h) (Or.inr ⟨by rfl, rfl⟩) (by assumption) ?_
              try simp only [Act.put, List.setIfInBounds_toArray, List.set_cons_zero, List.set_cons_succ]
              refine wpAnyH_take (i := 18) (oi := { dst := some 192, op := Op.load 23 (Operand.tmp 191), type := 23, pos := "law.go:81", after := #[{ on := 17, ground := Ground.data }, { on := 14, ground := Ground.guard }], guard := some (14, true) }) (v := undef) rfl (by kernel_rfl) (by kernel_rfl) (by kernel_rfl) (fun _ _ _ h => h) (Or.inr ⟨by rfl, rfl⟩) (by assumption) ?_
              try simp only [Act.put, List.setIfInBounds_toArray, List.set_cons_zero, List.set_cons_succ]
              refine wpAnyH_take (i := 19) (oi := { dst := some 193, op := Op.binOp BinOp.neq 23 (Operand.tmp 189) (Operand.tmp 192) 23, type := 4, pos := "law.go:81", after := #[{ on := 15, ground := Ground.data }, { on := 18, ground := Ground.data }, { on := 14, ground := Ground.guard }], guard := some (14, true) }) (v := undef) rfl (by kernel_rfl) (by kernel_rfl) (by kernel_rfl) (fun _ _ _ h => h) (Or.inr ⟨by rfl, rfl⟩) (by assumption) ?_
              try simp only [Act.put, List.setIfInBounds_toArray, List.set_cons_zero, List.set_cons_succ]
              refine wpAnyH_take (i := 20) (oi := { dst := some 194, op := Op.pick (Operand.tmp 188) (Operand.tmp 193) (Operand.const (Value.bool false)), type := 4, pos := "law.go:81", after := #[{ on := 14, ground := Ground.data }, { on := 19, ground := Ground.data }, { on := 12, ground := Ground.guard }], guard := some (12, false) }) (v := ?vv22) rfl (by kernel_rfl) (by kernel_rfl) (by kernel_rfl) (fun _ _ _ h => h) (Or.inl ⟨by rfl, ?hy22⟩) (by assumption) ?hr22
              case hy22 => (intro wS hSw; (try dsimp only at hSw); go_simp; try with_reducible rfl)
              try simp only [Act.put, List.setIfInBounds_toArray, List.set_cons_zero, List.set_cons_succ]
              refine wpAnyH_take (i := 21) (oi := { dst := some 195, op := Op.pick (Operand.tmp 186) (Operand.const (Value.bool true)) (Operand.tmp 194), type := 4, pos := "law.go:81", after := #[{ on := 12, ground := Ground.data }, { on := 20, ground := Ground.data }], guard := none }) (v := ?vv23) rfl (by kernel_rfl) (by kernel_rfl) (by kernel_rfl) (fun _ _ _ h => h) (Or.inl ⟨by rfl, ?hy23⟩) (by assumption) ?hr23
              case hy23 => (intro wS hSw; (try dsimp only at hSw); go_simp; try with_reducible rfl)
              try simp only [Act.put, List.setIfInBounds_toArray, List.set_cons_zero, List.set_cons_succ]
              refine wpAnyH_take (i := 22) (oi := { dst := some 196, op := Op.move (Operand.tmp 195), type := 4, pos := "law.go:81", after := #[{ on := 21, ground := Ground.data }, { on := 14, ground := Ground.chain }], guard := none }) (v := ?vv24) rfl (by kernel_rfl) (by kernel_rfl) (by kernel_rfl) (fun _ _ _ h => h) (Or.inl ⟨by rfl, ?hy24⟩) (by assumption) ?hr24
              case hy24 => (intro wS hSw; (try dsimp only at hSw); go_simp; try with_reducible rfl)
              try simp only [Act.put, List.setIfInBounds_toArray, List.set_cons_zero, List.set_cons_succ]
              refine wpAnyH_take (i := 23) (oi := { dst := some 197, op := Op.move (Operand.tmp 5), type := 28, pos := "law.go:81", after := #[{ on := 22, ground := Ground.guard }], guard := some (22, false) }) (v := ?vv25) rfl (by kernel_rfl) (by kernel_rfl) (by kernel_rfl) (fun _ _ _ h => h) (Or.inl ⟨by rfl, ?hy25⟩) (by assumption) ?hr25
              case hy25 => (intro wS hSw; (try dsimp only at hSw); go_simp; try with_reducible rfl)
              try simp only [Act.put, List.setIfInBounds_toArray, List.set_cons_zero, List.set_cons_succ]
              refine wpAnyH_take (i := 25) (oi := { dst := some 199, op := Op.move (Operand.tmp 7), type := 27, pos := "law.go:81", after := #[{ on := 22, ground := Ground.guard }], guard := some (22, false) }) (v := ?vv26) rfl (by kernel_rfl) (by kernel_rfl) (by kernel_rfl) (fun _ _ _ h => h) (Or.inl ⟨by rfl, ?hy26⟩) (by assumption) ?hr26
              case hy26 => (intro wS hSw; (try dsimp only at hSw); go_simp; try with_reducible rfl)
              try simp only [Act.put, List.setIfInBounds_toArray, List.set_cons_zero, List.set_cons_succ]
              refine wpAnyH_ready (rs := [24]) (by kernel_rfl) (by simp) ?_
              refine AllReadyH.cons (o := { dst := some 198, op := Op.call { callee := Callee.value (Operand.func 19), args := #[Operand.tmp 197], argTypes := #[28] }, type := 27, pos := "law.go:81", after := #[{ on := 23, ground := Ground.data }, { on := 22, ground := Ground.chain }, { on := 22, ground := Ground.guard }], guard := some (22, false) }) rfl (fun K hK => ?_) AllReadyH.nil
              go_simp
              (go_at_call 19; refine Calls.mono (HSr.out _ ?_) ?_; assumption; rintro e w8 ⟨a8, c8, rfl, hq8, hP8⟩)
              try go_wp2_with fail
              refine hK.out _ _ ?hS27 (fun hHeld => ?hr27)
              case hS27 => (try dsimp only); (first | (obtain ⟨⟨z0, z1, z2, z3⟩, z9⟩ := HK.out _ (bel_drew hbr); exact ⟨⟨z0, z1, z2, z3⟩, z9⟩) | (obtain ⟨⟨z0, z1, z2, z3⟩, z9⟩ := HK.out _ (by assumption); exact ⟨⟨z0, z1, z2, z3⟩, z9⟩))
              clear hK K
              try simp only [Act.put, List.setIfInBounds_toArray, List.set_cons_zero, List.set_cons_succ]
              refine wpAnyH_ready (rs := [26]) (by kernel_rfl) (by simp) ?_
              refine AllReadyH.cons (o := { dst := some 200, op := Op.call { callee := Callee.value (Operand.func 20), args := #[Operand.tmp 198, Operand.tmp 199], argTypes := #[27, 27] }, type := 4, pos := "law.go:81", after := #[{ on := 24, ground := Ground.data }, { on := 25, ground := Ground.data }, { on := 24, ground := Ground.chain }, { on := 22, ground := Ground.guard }], guard := some (22, false) }) rfl (fun K hK => ?_) AllReadyH.nil
              go_simp
              (go_at_call 20; refine Calls.mono (HSm.out _ a8 c8 hP8 hq8) ?_; rintro e w9 ⟨rfl, hP9⟩)
              try go_wp2_with fail
              refine hK.out _ _ ?hS28 (fun hHeld => ?hr28)
              case hS28 => (try dsimp only); (first | (obtain ⟨⟨z0, z1, z2, z3⟩, z9⟩ := HK.out _ (bel_drew hbr); exact ⟨⟨z0, z1, z2, z3⟩, z9⟩) | (obtain ⟨⟨z0, z1, z2, z3⟩, z9⟩ := HK.out _ (by assumption); exact ⟨⟨z0, z1, z2, z3⟩, z9⟩))
              clear hK K
              try simp only [Act.put, List.setIfInBounds_toArray, List.set_cons_zero, List.set_cons_succ]
              refine wpAnyH_take (i := 27) (oi := { dst := some 201, op := Op.unOp UnOp.not 4 (Operand.tmp 200), type := 4, pos := "law.go:81", after := #[{ on := 26, ground := Ground.data }, { on := 22, ground := Ground.guard }], guard := some (22, false) }) (v := ?vv29) rfl (by kernel_rfl) (by kernel_rfl) (by kernel_rfl) (fun _ _ _ h => h) (Or.inl ⟨by rfl, ?hy29⟩) (by assumption) ?hr29
              case hy29 => (intro wS hSw; (try dsimp only at hSw); go_simp; try with_reducible rfl)
              try simp only [Act.put, List.setIfInBounds_toArray, List.set_cons_zero, List.set_cons_succ]
              refine wpAnyH_take (i := 28) (oi := { dst := some 202, op := Op.pick (Operand.tmp 196) (Operand.const (Value.bool true)) (Operand.tmp 201), type := 4, pos := "law.go:81", after := #[{ on := 22, ground := Ground.data }, { on := 27, ground := Ground.data }], guard := none }) (v := ?vv30) rfl (by kernel_rfl) (by kernel_rfl) (by kernel_rfl) (fun _ _ _ h => h) (Or.inl ⟨by rfl, ?hy30⟩) (by assumption) ?hr30
              case hy30 => (intro wS hSw; (try dsimp only at hSw); go_simp; try with_reducible rfl)
              try simp only [Act.put, List.setIfInBounds_toArray, List.set_cons_zero, List.set_cons_succ]
              refine wpAnyH_done (by kernel_rfl) ?_ _
              have HX9 := Lib.hid (HX6.out.below hP9)
              go_wp2_with fail
              go_roundw
              case rel => exact ⟨k + 1, [], F', by omega, by go_num, HX9.out⟩
              case measure => simp [intOf]; omega
            | cons x m =>
              obtain ⟨y0, y1, y2, y3⟩ := x
              obtain ⟨a7, c7, rfl, _⟩ := hX'.s
              have hP := hX'.peek
              unfold peekM qv at hP
              simp only [List.length_cons] at hP
              have hm8 := hX'.a.len_
              have HP := Lib.hid hP
              clear hP hX'
              go_wp2_with fail
              refine HP.out.mono ?_
              rintro e w5 ⟨rfl, hX5⟩
              have hX6 := hX5.below (bel_alloc (Below.refl w5.heap.size w5) (.cells #[.int .i64 y0, .int .i64 y1, .int .i64 y2, .int .i64 y3] 23))
              have hk6 := C4.new w5 w5.heap.size y0 y1 y2 y3 23 rfl
              obtain ⟨b7, o7, rfl, _, _, _, hq7⟩ := hX6.tail rfl
              go_upto_region 38 with fail
              generalize w5.alloc (.cells #[.int .i64 y0, .int .i64 y1, .int .i64 y2, .int .i64 y3] 23) = w6 at *
              generalize w5.heap.size = bx at *
              have hbr : Below w6.heap.size w6 w6 := Below.refl _ _
              have HX6 := Lib.hid hX6
              have HK : Hid (∀ W, Below w6.heap.size w6 W → C4 W bx y0 y1 y2 y3 ∧ Q4 W b7 o7 (y0, y1, y2, y3) ∧ Below w6.heap.size w6 W) := fun W hb => ⟨hk6.below hb, hq7.below hb, hb⟩
              have HLn : Hid (∀ W, Below w6.heap.size w6 W → Calls Try.prog 22 #[.pointer (some ⟨p, 0, none⟩)] W fun e w' => e = .returned (.int .i64 (((m.length + 1) : Nat) : Int)) ∧ Below w6.heap.size w6 w') := fun W hb => (hlen_m (HX6.out.below hb).a.a).mono fun _ _ ⟨he, hw⟩ => ⟨he, hw ▸ hb⟩
              have HSr : Hid (∀ W, Below w6.heap.size w6 W → Calls Try.prog 19 #[.pointer (some ⟨p, 0, none⟩)] W fun e w' => ∃ (a : Option Addr) (c : Nat), e = .returned (.slice a (m.length + 1) c) ∧ QsIn w'.heap.size w' a (m.length + 1) ((y0, y1, y2, y3) :: m) ∧ Below w6.heap.size w6 w') := fun W hb => (sorted_m (HX6.out.below hb).a.a).mono fun _ _ ⟨a, c, he, ho, hb'⟩ => ⟨a, c, he, qs_of_own ho rfl, hb.trans (hb'.mono hb.size)⟩
              have HSm : Hid (∀ W (a : Option Addr) (c : Nat), Below w6.heap.size w6 W → QsIn W.heap.size W a (m.length + 1) ((y0, y1, y2, y3) :: m) → Calls Try.prog 20 #[.slice a (m.length + 1) c, .slice (some ⟨b7, o7, none⟩) (m.length + 1) c7] W fun e w' => e = .returned (.bool true) ∧ Below w6.heap.size w6 w') := by
                intro W a c hb hq
                have hs := (HX6.out.below hb).s
                obtain ⟨a9, c9, e9, hQ9, _, _⟩ := hs
                simp only [Value.slice.injEq] at e9
                obtain ⟨rfl, _, rfl⟩ := e9
                exact (same_any W.heap.size _ _ (m.length + 1) c c7 _ W hq hQ9 (Nat.le_refl _) (by omega)).mono fun _ _ ⟨he, hb'⟩ => ⟨he, hb.trans (hb'.mono hb.size)⟩
              clear hX5 hX6 hk6 hq7
              have hM0 : (0 : Int) < ((m.length + 1 : Nat) : Int) := by omega
              have hM1 : decide ((0 : Int) < (m.length : Int) + 1) = true := decide_eq_true (by omega)
              have hM2 : (0 : Int) < (m.length : Int) + 1 := by omega
              refine wp_region_held_drew (S := fun w' => (w'.cell? ⟨bx, 0, none⟩ = some (.int .i64 y0) ∧ w'.cell? ⟨bx, 1, none⟩ = some (.int .i64 y1) ∧ w'.cell? ⟨bx, 2, none⟩ = some (.int .i64 y2) ∧ w'.cell? ⟨bx, 3, none⟩ = some (.int .i64 y3) ∧ w'.cell? ⟨b7, o7, none⟩ = some (.int .i64 y0) ∧ w'.cell? ⟨b7, o7 + 1, none⟩ = some (.int .i64 y1) ∧ w'.cell? ⟨b7, o7 + 2, none⟩ = some (.int .i64 y2) ∧ w'.cell? ⟨b7, o7 + 3, none⟩ = some (.int .i64 y3)) ∧ Below w6.heap.size w6 w') (by kernel_rfl) ?hS31 (fun hHeld => ?_)
              case hS31 => (try dsimp only); (first | (obtain ⟨⟨z0, z1, z2, z3⟩, ⟨z4, z5, z6, z7⟩, z9⟩ := HK.out _ (bel_drew hbr); exact ⟨⟨z0, z1, z2, z3, z4, z5, z6, z7⟩, z9⟩) | (obtain ⟨⟨z0, z1, z2, z3⟩, ⟨z4, z5, z6, z7⟩, z9⟩ := HK.out _ (by assumption); exact ⟨⟨z0, z1, z2, z3, z4, z5, z6, z7⟩, z9⟩))
              refine wpAnyH_take (i := 0) (oi := { dst := some 174, op := Op.move (Operand.tmp 5), type := 28, pos := "law.go:81", after := #[], guard := none }) (v := ?vv32) rfl (by kernel_rfl) (by kernel_rfl) (by kernel_rfl) (fun _ _ _ h => h) (Or.inl ⟨by rfl, ?hy32⟩) (by assumption) ?hr32
              case hy32 => (intro wS hSw; (try dsimp only at hSw); go_simp; try with_reducible rfl)
              try simp only [Act.put, List.setIfInBounds_toArray, List.set_cons_zero, List.set_cons_succ]
              refine wpAnyH_take (i := 2) (oi := { dst := some 176, op := Op.move (Operand.tmp 7), type := 27, pos := "law.go:81", after := #[], guard := none }) (v := ?vv33) rfl (by kernel_rfl) (by kernel_rfl) (by kernel_rfl) (fun _ _ _ h => h) (Or.inl ⟨by rfl, ?hy33⟩) (by assumption) ?hr33
              case hy33 => (intro wS hSw; (try dsimp only at hSw); go_simp; try with_reducible rfl)
              try simp only [Act.put, List.setIfInBounds_toArray, List.set_cons_zero, List.set_cons_succ]
              refine wpAnyH_take (i := 3) (oi := { dst := some 177, op := Op.call { callee := Callee.builtin Builtin.len, args := #[Operand.tmp 176], argTypes := #[27] }, type := 3, pos := "law.go:81", after := #[{ on := 2, ground := Ground.data }], guard := none }) (v := ?vv34) rfl (by kernel_rfl) (by kernel_rfl) (by kernel_rfl) (fun _ _ _ h => h) (Or.inl ⟨by rfl, ?hy34⟩) (by assumption) ?hr34
              case hy34 => (intro wS hSw; (try dsimp only at hSw); go_simp; try with_reducible rfl)
              try simp only [Act.put, List.setIfInBounds_toArray, List.set_cons_zero, List.set_cons_succ]
              refine wpAnyH_ready (rs := [1]) (by kernel_rfl) (by simp) ?_
              refine AllReadyH.cons (o := { dst := some 175, op := Op.call { callee := Callee.value (Operand.func 22), args := #[Operand.tmp 174], argTypes := #[28] }, type := 3, pos := "law.go:81", after := #[{ on := 0, ground := Ground.data }], guard := none }) rfl (fun K hK => ?_) AllReadyH.nil
              go_simp
              (go_at_call 22; refine Calls.mono (HLn.out _ ?_) ?_; (first | assumption | exact bel_drew hbr); rintro e w7 ⟨rfl, hP7⟩)
              try go_wp2_with fail
              refine hK.out _ _ ?hS35 (fun hHeld => ?hr35)
              case hS35 => (try dsimp only); (first | (obtain ⟨⟨z0, z1, z2, z3⟩, ⟨z4, z5, z6, z7⟩, z9⟩ := HK.out _ (bel_drew hbr); exact ⟨⟨z0, z1, z2, z3, z4, z5, z6, z7⟩, z9⟩) | (obtain ⟨⟨z0, z1, z2, z3⟩, ⟨z4, z5, z6, z7⟩, z9⟩ := HK.out _ (by assumption); exact ⟨⟨z0, z1, z2, z3, z4, z5, z6, z7⟩, z9⟩))
              clear hK K
              try simp only [Act.put, List.setIfInBounds_toArray, List.set_cons_zero, List.set_cons_succ]
              refine wpAnyH_take (i := 4) (oi := { dst := some 178, op := Op.binOp BinOp.neq 3 (Operand.tmp 175) (Operand.tmp 177) 3, type := 4, pos := "law.go:81", after := #[{ on := 1, ground := Ground.data }, { on := 3, ground := Ground.data }], guard := none }) (v := ?vv36) rfl (by kernel_rfl) (by kernel_rfl) (by kernel_rfl) (fun _ _ _ h => h) (Or.inl ⟨by rfl, ?hy36⟩) (by assumption) ?hr36
              case hy36 => (intro wS hSw; (try dsimp only at hSw); go_simp; try with_reducible rfl)
              try simp only [Act.put, List.setIfInBounds_toArray, List.set_cons_zero, List.set_cons_succ]
              refine wpAnyH_take (i := 5) (oi := { dst := some 179, op := Op.move (Operand.tmp 178), type := 4, pos := "law.go:81", after := #[{ on := 4, ground := Ground.data }, { on := 1, ground := Ground.chain }], guard := none }) (v := ?vv37) rfl (by kernel_rfl) (by kernel_rfl) (by kernel_rfl) (fun _ _ _ h => h) (Or.inl ⟨by rfl, ?hy37⟩) (by assumption) ?hr37
              case hy37 => (intro wS hSw; (try dsimp only at hSw); go_simp; try with_reducible rfl)
              try simp only [Act.put, List.setIfInBounds_toArray, List.set_cons_zero, List.set_cons_succ]
              refine wpAnyH_take (i := 6) (oi := { dst := some 180, op := Op.move (Operand.tmp 14), type := 4, pos := "law.go:81", after := #[{ on := 5, ground := Ground.guard }], guard := some (5, false) }) (v := ?vv38) rfl (by kernel_rfl) (by kernel_rfl) (by kernel_rfl) (fun _ _ _ h => h) (Or.inl ⟨by rfl, ?hy38⟩) (by assumption) ?hr38
              case hy38 => (intro wS hSw; (try dsimp only at hSw); go_simp; try with_reducible rfl)
              try simp only [Act.put, List.setIfInBounds_toArray, List.set_cons_zero, List.set_cons_succ]
              refine wpAnyH_take (i := 7) (oi := { dst := some 181, op := Op.move (Operand.tmp 7), type := 27, pos := "law.go:81", after := #[{ on := 5, ground := Ground.guard }], guard := some (5, false) }) (v := ?vv39) rfl (by kernel_rfl) (by kernel_rfl) (by kernel_rfl) (fun _ _ _ h => h) (Or.inl ⟨by rfl, ?hy39⟩) (by assumption) ?hr39
              case hy39 => (intro wS hSw; (try dsimp only at hSw); go_simp; try with_reducible rfl)
              try simp only [Act.put, List.setIfInBounds_toArray, List.set_cons_zero, List.set_cons_succ]
              refine wpAnyH_take (i := 8) (oi := { dst := some 182, op := Op.call { callee := Callee.builtin Builtin.len, args := #[Operand.tmp 181], argTypes := #[27] }, type := 3, pos := "law.go:81", after := #[{ on := 7, ground := Ground.data }, { on := 5, ground := Ground.guard }], guard := some (5, false) }) (v := ?vv40) rfl (by kernel_rfl) (by kernel_rfl) (by kernel_rfl) (fun _ _ _ h => h) (Or.inl ⟨by rfl, ?hy40⟩) (by assumption) ?hr40
              case hy40 => (intro wS hSw; (try dsimp only at hSw); go_simp; try with_reducible rfl)
              try simp only [Act.put, List.setIfInBounds_toArray, List.set_cons_zero, List.set_cons_succ]
              refine wpAnyH_take (i := 9) (oi := { dst := some 183, op := Op.binOp BinOp.gtr 3 (Operand.tmp 182) (Operand.const (Value.int IntKind.i64 0)) 3, type := 4, pos := "law.go:81", after := #[{ on := 8, ground := Ground.data }, { on := 5, ground := Ground.guard }], guard := some (5, false) }) (v := ?vv41) rfl (by kernel_rfl) (by kernel_rfl) (by kernel_rfl) (fun _ _ _ h => h) (Or.inl ⟨by rfl, ?hy41⟩) (by assumption) ?hr41
              case hy41 => (intro wS hSw; (try dsimp only at hSw); go_simp; try with_reducible rfl)
              try simp only [Act.put, List.setIfInBounds_toArray, List.set_cons_zero, List.set_cons_succ]
              refine wpAnyH_take (i := 10) (oi := { dst := some 184, op := Op.binOp BinOp.neq 4 (Operand.tmp 180) (Operand.tmp 183) 4, type := 4, pos := "law.go:81", after := #[{ on := 6, ground := Ground.data }, { on := 9, ground := Ground.data }, { on := 5, ground := Ground.guard }], guard := some (5, false) }) (v := ?vv42) rfl (by kernel_rfl) (by kernel_rfl) (by kernel_rfl) (fun _ _ _ h => h) (Or.inl ⟨by rfl, ?hy42⟩) (by assumption) ?hr42
              case hy42 => (intro wS hSw; (try dsimp only at hSw); go_simp; try with_reducible rfl)
              try simp only [Act.put, List.setIfInBounds_toArray, List.set_cons_zero, List.set_cons_succ]
              refine wpAnyH_take (i := 11) (oi := { dst := some 185, op := Op.pick (Operand.tmp 179) (Operand.const (Value.bool true)) (Operand.tmp 184), type := 4, pos := "law.go:81", after := #[{ on := 5, ground := Ground.data }, { on := 10, ground := Ground.data }], guard := none }) (v := ?vv43) rfl (by kernel_rfl) (by kernel_rfl) (by kernel_rfl) (fun _ _ _ h => h) (Or.inl ⟨by rfl, ?hy43⟩) (by assumption) ?hr43
              case hy43 => (intro wS hSw; (try dsimp only at hSw); go_simp; try with_reducible rfl)
              try simp only [Act.put, List.setIfInBounds_toArray, List.set_cons_zero, List.set_cons_succ]
              refine wpAnyH_take (i := 12) (oi := { dst := some 186, op := Op.move (Operand.tmp 185), type := 4, pos := "law.go:81", after := #[{ on := 11, ground := Ground.data }, { on := 5, ground := Ground.chain }], guard := none }) (v := ?vv44) rfl (by kernel_rfl) (by kernel_rfl) (by kernel_rfl) (fun _ _ _ h => h) (Or.inl ⟨by rfl, ?hy44⟩) (by assumption) ?hr44
              case hy44 => (intro wS hSw; (try dsimp only at hSw); go_simp; try with_reducible rfl)
              try simp only [Act.put, List.setIfInBounds_toArray, List.set_cons_zero, List.set_cons_succ]
              refine wpAnyH_take (i := 13) (oi := { dst := some 187, op := Op.move (Operand.tmp 14), type := 4, pos := "law.go:81", after := #[{ on := 12, ground := Ground.guard }], guard := some (12, false) }) (v := ?vv45) rfl (by kernel_rfl) (by kernel_rfl) (by kernel_rfl) (fun _ _ _ h => h) (Or.inl ⟨by rfl, ?hy45⟩) (by assumption) ?hr45
              case hy45 => (intro wS hSw; (try dsimp only at hSw); go_simp; try with_reducible rfl)
              try simp only [Act.put, List.setIfInBounds_toArray, List.set_cons_zero, List.set_cons_succ]
              refine wpAnyH_take (i := 14) (oi := { dst := some 188, op := Op.move (Operand.tmp 187), type := 4, pos := "law.go:81", after := #[{ on := 13, ground := Ground.data }, { on := 12, ground := Ground.chain }, { on := 12, ground := Ground.guard }], guard := some (12, false) }) (v := ?vv46) rfl (by kernel_rfl) (by kernel_rfl) (by kernel_rfl) (fun _ _ _ h => h) (Or.inl ⟨by rfl, ?hy46⟩) (by assumption) ?hr46
              case hy46 => (intro wS hSw; (try dsimp only at hSw); go_simp; try with_reducible rfl)
              try simp only [Act.put, List.setIfInBounds_toArray, List.set_cons_zero, List.set_cons_succ]
              refine wpAnyH_take (i := 15) (oi := { dst := some 189, op := Op.load 23 (Operand.tmp 13), type := 23, pos := "law.go:81", after := #[{ on := 14, ground := Ground.guard }], guard := some (14, true) }) (v := ?vv47) rfl (by kernel_rfl) (by kernel_rfl) (by kernel_rfl) (fun _ _ _ h => h) (Or.inl ⟨by rfl, ?hy47⟩) (by assumption) ?hr47
              case hy47 => (intro wS hSw; (try dsimp only at hSw); go_simp; try with_reducible rfl)
              try simp only [Act.put, List.setIfInBounds_toArray, List.set_cons_zero, List.set_cons_succ]
              refine wpAnyH_take (i := 16) (oi := { dst := some 190, op := Op.move (Operand.tmp 7), type := 27, pos := "law.go:81", after := #[{ on := 14, ground := Ground.guard }], guard := some (14, true) }) (v := ?vv48) rfl (by kernel_rfl) (by kernel_rfl) (by kernel_rfl) (fun _ _ _ h => h) (Or.inl ⟨by rfl, ?hy48⟩) (by assumption) ?hr48
              case hy48 => (intro wS hSw; (try dsimp only at hSw); go_simp; try with_reducible rfl)
              try simp only [Act.put, List.setIfInBounds_toArray, List.set_cons_zero, List.set_cons_succ]
              refine wpAnyH_take (i := 17) (oi := { dst := some 191, op := Op.indexAddr 27 (Operand.tmp 190) (Operand.const (Value.int IntKind.i64 0)), type := 0, pos := "law.go:81", after := #[{ on := 16, ground := Ground.data }, { on := 14, ground := Ground.guard }], guard := some (14, true) }) (v := ?vv49) rfl (by kernel_rfl) (by kernel_rfl) (by kernel_rfl) (fun _ _ _ h => h) (Or.inl ⟨by rfl, ?hy49⟩) (by assumption) ?hr49
              case hy49 => (intro wS hSw; (try dsimp only at hSw); go_simp; try with_reducible rfl)
              try simp only [Act.put, List.setIfInBounds_toArray, List.set_cons_zero, List.set_cons_succ]
              refine wpAnyH_take (i := 18) (oi := { dst := some 192, op := Op.load 23 (Operand.tmp 191), type := 23, pos := "law.go:81", after := #[{ on := 17, ground := Ground.data }, { on := 14, ground := Ground.guard }], guard := some (14, true) }) (v := ?vv50) rfl (by kernel_rfl) (by kernel_rfl) (by kernel_rfl) (fun _ _ _ h => h) (Or.inl ⟨by rfl, ?hy50⟩) (by assumption) ?hr50
              case hy50 => (intro wS hSw; (try dsimp only at hSw); go_simp; try with_reducible rfl)
              try simp only [Act.put, List.setIfInBounds_toArray, List.set_cons_zero, List.set_cons_succ]
              refine wpAnyH_take (i := 19) (oi := { dst := some 193, op := Op.binOp BinOp.neq 23 (Operand.tmp 189) (Operand.tmp 192) 23, type := 4, pos := "law.go:81", after := #[{ on := 15, ground := Ground.data }, { on := 18, ground := Ground.data }, { on := 14, ground := Ground.guard }], guard := some (14, true) }) (v := ?vv51) rfl (by kernel_rfl) (by kernel_rfl) (by kernel_rfl) (fun _ _ _ h => h) (Or.inl ⟨by rfl, ?hy51⟩) (by assumption) ?hr51
              case hy51 => (intro wS hSw; (try dsimp only at hSw); go_simp; try with_reducible rfl)
              try simp only [Act.put, List.setIfInBounds_toArray, List.set_cons_zero, List.set_cons_succ]
              refine wpAnyH_take (i := 20) (oi := { dst := some 194, op := Op.pick (Operand.tmp 188) (Operand.tmp 193) (Operand.const (Value.bool false)), type := 4, pos := "law.go:81", after := #[{ on := 14, ground := Ground.data }, { on := 19, ground := Ground.data }, { on := 12, ground := Ground.guard }], guard := some (12, false) }) (v := ?vv52) rfl (by kernel_rfl) (by kernel_rfl) (by kernel_rfl) (fun _ _ _ h => h) (Or.inl ⟨by rfl, ?hy52⟩) (by assumption) ?hr52
              case hy52 => (intro wS hSw; (try dsimp only at hSw); go_simp; try with_reducible rfl)
              try simp only [Act.put, List.setIfInBounds_toArray, List.set_cons_zero, List.set_cons_succ]
              refine wpAnyH_take (i := 21) (oi := { dst := some 195, op := Op.pick (Operand.tmp 186) (Operand.const (Value.bool true)) (Operand.tmp 194), type := 4, pos := "law.go:81", after := #[{ on := 12, ground := Ground.data }, { on := 20, ground := Ground.data }], guard := none }) (v := ?vv53) rfl (by kernel_rfl) (by kernel_rfl) (by kernel_rfl) (fun _ _ _ h => h) (Or.inl ⟨by rfl, ?hy53⟩) (by assumption) ?hr53
              case hy53 => (intro wS hSw; (try dsimp only at hSw); go_simp; try with_reducible rfl)
              try simp only [Act.put, List.setIfInBounds_toArray, List.set_cons_zero, List.set_cons_succ]
              refine wpAnyH_take (i := 22) (oi := { dst := some 196, op := Op.move (Operand.tmp 195), type := 4, pos := "law.go:81", after := #[{ on := 21, ground := Ground.data }, { on := 14, ground := Ground.chain }], guard := none }) (v := ?vv54) rfl (by kernel_rfl) (by kernel_rfl) (by kernel_rfl) (fun _ _ _ h => h) (Or.inl ⟨by rfl, ?hy54⟩) (by assumption) ?hr54
              case hy54 => (intro wS hSw; (try dsimp only at hSw); go_simp; try with_reducible rfl)
              try simp only [Act.put, List.setIfInBounds_toArray, List.set_cons_zero, List.set_cons_succ]
              refine wpAnyH_take (i := 23) (oi := { dst := some 197, op := Op.move (Operand.tmp 5), type := 28, pos := "law.go:81", after := #[{ on := 22, ground := Ground.guard }], guard := some (22, false) }) (v := ?vv55) rfl (by kernel_rfl) (by kernel_rfl) (by kernel_rfl) (fun _ _ _ h => h) (Or.inl ⟨by rfl, ?hy55⟩) (by assumption) ?hr55
              case hy55 => (intro wS hSw; (try dsimp only at hSw); go_simp; try with_reducible rfl)
              try simp only [Act.put, List.setIfInBounds_toArray, List.set_cons_zero, List.set_cons_succ]
              refine wpAnyH_take (i := 25) (oi := { dst := some 199, op := Op.move (Operand.tmp 7), type := 27, pos := "law.go:81", after := #[{ on := 22, ground := Ground.guard }], guard := some (22, false) }) (v := ?vv56) rfl (by kernel_rfl) (by kernel_rfl) (by kernel_rfl) (fun _ _ _ h => h) (Or.inl ⟨by rfl, ?hy56⟩) (by assumption) ?hr56
              case hy56 => (intro wS hSw; (try dsimp only at hSw); go_simp; try with_reducible rfl)
              try simp only [Act.put, List.setIfInBounds_toArray, List.set_cons_zero, List.set_cons_succ]
              refine wpAnyH_ready (rs := [24]) (by kernel_rfl) (by simp) ?_
              refine AllReadyH.cons (o := { dst := some 198, op := Op.call { callee := Callee.value (Operand.func 19), args := #[Operand.tmp 197], argTypes := #[28] }, type := 27, pos := "law.go:81", after := #[{ on := 23, ground := Ground.data }, { on := 22, ground := Ground.chain }, { on := 22, ground := Ground.guard }], guard := some (22, false) }) rfl (fun K hK => ?_) AllReadyH.nil
              go_simp
              (go_at_call 19; refine Calls.mono (HSr.out _ ?_) ?_; assumption; rintro e w8 ⟨a8, c8, rfl, hq8, hP8⟩)
              try go_wp2_with fail
              refine hK.out _ _ ?hS57 (fun hHeld => ?hr57)
              case hS57 => (try dsimp only); (first | (obtain ⟨⟨z0, z1, z2, z3⟩, ⟨z4, z5, z6, z7⟩, z9⟩ := HK.out _ (bel_drew hbr); exact ⟨⟨z0, z1, z2, z3, z4, z5, z6, z7⟩, z9⟩) | (obtain ⟨⟨z0, z1, z2, z3⟩, ⟨z4, z5, z6, z7⟩, z9⟩ := HK.out _ (by assumption); exact ⟨⟨z0, z1, z2, z3, z4, z5, z6, z7⟩, z9⟩))
              clear hK K
              try simp only [Act.put, List.setIfInBounds_toArray, List.set_cons_zero, List.set_cons_succ]
              refine wpAnyH_ready (rs := [26]) (by kernel_rfl) (by simp) ?_
              refine AllReadyH.cons (o := { dst := some 200, op := Op.call { callee := Callee.value (Operand.func 20), args := #[Operand.tmp 198, Operand.tmp 199], argTypes := #[27, 27] }, type := 4, pos := "law.go:81", after := #[{ on := 24, ground := Ground.data }, { on := 25, ground := Ground.data }, { on := 24, ground := Ground.chain }, { on := 22, ground := Ground.guard }], guard := some (22, false) }) rfl (fun K hK => ?_) AllReadyH.nil
              go_simp
              (go_at_call 20; refine Calls.mono (HSm.out _ a8 c8 hP8 hq8) ?_; rintro e w9 ⟨rfl, hP9⟩)
              try go_wp2_with fail
              refine hK.out _ _ ?hS58 (fun hHeld => ?hr58)
              case hS58 => (try dsimp only); (first | (obtain ⟨⟨z0, z1, z2, z3⟩, ⟨z4, z5, z6, z7⟩, z9⟩ := HK.out _ (bel_drew hbr); exact ⟨⟨z0, z1, z2, z3, z4, z5, z6, z7⟩, z9⟩) | (obtain ⟨⟨z0, z1, z2, z3⟩, ⟨z4, z5, z6, z7⟩, z9⟩ := HK.out _ (by assumption); exact ⟨⟨z0, z1, z2, z3, z4, z5, z6, z7⟩, z9⟩))
              clear hK K
              try simp only [Act.put, List.setIfInBounds_toArray, List.set_cons_zero, List.set_cons_succ]
              refine wpAnyH_take (i := 27) (oi := { dst := some 201, op := Op.unOp UnOp.not 4 (Operand.tmp 200), type := 4, pos := "law.go:81", after := #[{ on := 26, ground := Ground.data }, { on := 22, ground := Ground.guard }], guard := some (22, false) }) (v := ?vv59) rfl (by kernel_rfl) (by kernel_rfl) (by kernel_rfl) (fun _ _ _ h => h) (Or.inl ⟨by rfl, ?hy59⟩) (by assumption) ?hr59
              case hy59 => (intro wS hSw; (try dsimp only at hSw); go_simp; try with_reducible rfl)
              try simp only [Act.put, List.setIfInBounds_toArray, List.set_cons_zero, List.set_cons_succ]
              refine wpAnyH_take (i := 28) (oi := { dst := some 202, op := Op.pick (Operand.tmp 196) (Operand.const (Value.bool true)) (Operand.tmp 201), type := 4, pos := "law.go:81", after := #[{ on := 22, ground := Ground.data }, { on := 27, ground := Ground.data }], guard := none }) (v := ?vv60) rfl (by kernel_rfl) (by kernel_rfl) (by kernel_rfl) (fun _ _ _ h => h) (Or.inl ⟨by rfl, ?hy60⟩) (by assumption) ?hr60
              case hy60 => (intro wS hSw; (try dsimp only at hSw); go_simp; try with_reducible rfl)
              try simp only [Act.put, List.setIfInBounds_toArray, List.set_cons_zero, List.set_cons_succ]
              refine wpAnyH_done (by kernel_rfl) ?_ _
              have HX9 := Lib.hid (HX6.out.below hP9)
              go_wp2_with fail
              go_roundw
              case rel => exact ⟨k + 1, ((y0, y1, y2, y3) :: m), F', by omega, by go_num, HX9.out⟩
              case measure => simp [intOf]; omega
        · have hb := Lib.hid hX.bel
          go_wp2_with fail
          go_ret
          exact ⟨rfl, hb.out⟩
end Go.Proofs.Ytaogdgbijjjpjaa
