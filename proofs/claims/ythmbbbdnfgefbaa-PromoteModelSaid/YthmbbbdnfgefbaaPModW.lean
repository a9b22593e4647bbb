/- WALK: PromoteModel. -/
import Derived.Test.YthmbbbdnfgefbaaPM1
import Derived.IntWalk
namespace Go.Proofs.Ythmbbbdnfgefbaa
open Go.RowKit
set_option linter.unusedVariables false

theorem bel_drew {B : Nat} {w w' : World} (h : Below B w w') : Below B w w'.drew := h.trans ⟨rfl, rfl, rfl, Nat.le_refl _, fun _ _ => rfl⟩
theorem bel_drewN {B : Nat} {w w' : World} (h : Below B w w') (q : Nat) : Below B w (w'.drewN q) := h.trans ⟨rfl, rfl, rfl, Nat.le_refl _, fun _ _ => rfl⟩
theorem bel_alloc {w0 w : World} (h : Below w0.heap.size w0 w) (o : Obj) : Below w0.heap.size w0 (w.alloc o) := h.alloc h.size o
theorem filter_none {m : List (Int × Int)} {id : Int} (h : (m.any fun d => d.2 == id) = false) : (m.filter fun d => !(d.2 == id)) = m :=
  List.filter_eq_self.2 fun d hd => by simpa using List.any_eq_false.1 h d hd

set_option maxHeartbeats 8000000 in
set_option maxRecDepth 100000 in
theorem pmodel_walk (room : Int) (a : Option Addr) (n c : Nat) (l : List (Int × Int × Int × Int × Int)) (w : World) (hl : A5sIn w.heap.size w a n l) (hn : n ≤ 9223372036854775807)
    (hwf : ∀ z ∈ l, I64 z.1 ∧ I64 z.2.1 ∧ I64 z.2.2.1 ∧ I64 z.2.2.2.1 ∧ I64 z.2.2.2.2) :
    Calls Try.prog 8 #[.int .i64 room, .slice a n c] w fun e w' => e = .returned (.bool true) ∧ Below w.heap.size w w' := by
  have hlen := hl.1
  by_cases hbig : 200 < n
  · clear hwf
    go_enter Try.func8, Try.ntmps8
    go_wp2_with fail
    refine (pawake_any _).mono ?_
    rintro e w1 ⟨rfl, hb1⟩
    go_wp2_with fail
    refine (pawake_any _).mono ?_
    rintro e w2 ⟨rfl, hb2⟩
    go_wp2_with fail
    go_ret
    exact ⟨rfl, hb1.trans (hb2.mono hb1.size)⟩
  · have hn3 : n ≤ 200 := by omega
    by_cases hbad : room < 1 ∨ 1024 < room
    · clear hwf
      by_cases h1 : room < 1
      · go_enter Try.func8, Try.ntmps8
        go_wp2_with fail
        refine (pawake_any _).mono ?_
        rintro e w1 ⟨rfl, hb1⟩
        go_wp2_with fail
        refine (pnew_bad room _ hbad).mono ?_
        rintro e w2 ⟨rfl, rfl⟩
        go_wp2_with fail
        go_ret
        exact ⟨rfl, hb1⟩
      · have h1' : 1 ≤ room := by omega
        have h2' : 1024 < room := by omega
        go_enter Try.func8, Try.ntmps8
        go_wp2_with fail
        refine (pawake_any _).mono ?_
        rintro e w1 ⟨rfl, hb1⟩
        go_wp2_with fail
        refine (pnew_bad room _ hbad).mono ?_
        rintro e w2 ⟨rfl, rfl⟩
        go_wp2_with fail
        go_ret
        exact ⟨rfl, hb1⟩
    · have h1 : 1 ≤ room := by omega
      have h2 : room ≤ 1024 := by omega
      obtain ⟨R, hR⟩ : ∃ R : Nat, room = (R : Int) := ⟨room.toNat, by omega⟩
      subst hR
      have HWF := Lib.hid hwf
      clear hbig hbad hwf
      go_enter Try.func8, Try.ntmps8
      go_wp2_with fail
      refine (pawake_any _).mono ?_
      rintro e w1 ⟨rfl, hb1⟩
      go_wp2_with fail
      refine (PX.new hb1 R (by omega) (by omega)).mono ?_
      rintro e w2 ⟨q, p, F2, rfl, hW, _, _, _⟩
      go_wp2_with fail
      go_loopw [7, 8, 9] (fun sm st si wr => ∃ (k : Nat) (now : Int) (m : List (Int × Int)) (F : Nat → Prop), k ≤ n ∧ si = .int .i64 k ∧ st = .int .i64 now ∧ PJ w wr q p R F now m sm m) (fun _ _ si _ => n - (intOf si).toNat)
      case atStart => exact ⟨0, 0, [], F2, Nat.zero_le _, rfl, rfl, hW, Sl.nil _ _⟩
      case round =>
        clear hb1 hW
        obtain ⟨k, now, m, F, hk, rfl, rfl, hX⟩ := hrel
        by_cases hlt : k < n
        · obtain ⟨b, off, rfl, hbB, hcc⟩ := (hl.keep hX.bel).2 (by omega)
          obtain ⟨A0, A1, A2, A3, A4⟩ := hcc k (by omega)
          have HI := Lib.hid (HWF.out _ (List.getElem_mem (l := l) (n := k) (by omega)))
          generalize (l[k]'(by omega)) = act at *
          obtain ⟨do_, id, rel, d, r⟩ := act
          simp only at A0 A1 A2 A3 A4 HI
          have HL := Lib.hid hl
          have hkI : (k : Int) < (n : Int) := by omega
          have hmR := hX.a.a.len
          have hsl := hX.s
          rw [show sw m = sw m from rfl] at hsl
          obtain ⟨a2, c2, e2, hP, hH, hab⟩ := hsl
          rw [sw_len] at e2 hP hH
          subst e2
          have hX3 := hX.below (bel_alloc (Below.refl wr.heap.size wr) (.cells #[.int .i64 do_, .int .i64 id, .int .i64 rel, .int .i64 d, .int .i64 r] 56))
          have hB3 := Bx5.new wr F do_ id rel d r 56 fun k hk => (hX.a.a.flt k hk).1
          have hP3 : PairsIn (wr.alloc (.cells #[.int .i64 do_, .int .i64 id, .int .i64 rel, .int .i64 d, .int .i64 r] 56)).heap.size (wr.alloc (.cells #[.int .i64 do_, .int .i64 id, .int .i64 rel, .int .i64 d, .int .i64 r] 56)) a2 m.length (sw m) := by
            obtain ⟨a3, c3, e3, h3, _⟩ := hX3.s
            rw [sw_len] at e3 h3
            simp only [Value.slice.injEq] at e3
            obtain ⟨rfl, _, rfl⟩ := e3
            exact h3
          clear hcc hl hX hP hab
          go_wp2_with fail
          generalize wr.alloc (.cells #[.int .i64 do_, .int .i64 id, .int .i64 rel, .int .i64 d, .int .i64 r] 56) = w3 at *
          generalize wr.heap.size = bx at *
          clear A0 A1 A2 A3 A4
          go_loopw [11, 12] (fun sk sj wi => ∃ (j : Nat) (kk : Int), j ≤ m.length ∧ sj = .int .i64 j ∧ sk = .int .i64 kk ∧ Hid (KIdx m id j kk) ∧ Below w3.heap.size w3 wi) (fun _ sj _ => m.length - (intOf sj).toNat)
          case atStart => exact ⟨0, -1, Nat.zero_le _, rfl, rfl, KIdx.zero _ _, Below.refl _ _⟩
          case round =>
            obtain ⟨j, kk, hj, rfl, rfl, HK, hb4⟩ := hrel
            have hB4 := hB3.below hb4
            by_cases hjl : j < m.length
            · have d1 := hB4.c1
              obtain ⟨b4, o4, rfl, hb4B, hcc⟩ := jobs_get (hP3.keep hb4) (by omega)
              have hcell := (hcc j hjl).1
              have hjI : (j : Int) < (m.length : Int) := by omega
              have HKy : Hid (m[j].2 = id → KIdx m id (j + 1) (j : Int)) := fun e => KIdx.yes (k := kk) hjl e
              have HKn : Hid (m[j].2 ≠ id → KIdx m id (j + 1) kk) := fun e => HK.out.no hjl e
              generalize m[j].2 = di at *
              have HP3 := Lib.hid hP3
              clear hcc HK hP3 hX3 hB3 hB4 hH
              by_cases he : di = id
              · have HKy' := Lib.hid (HKy.out he)
                subst he
                clear HKy HKn
                go_wp2_with fail
                go_quiet (fail)
                go_wp2_with fail
                go_roundw
                case rel => exact ⟨j + 1, (j : Int), by omega, by go_num, rfl, HKy'.out, hb4.trans ⟨rfl, rfl, rfl, Nat.le_refl _, fun _ _ => rfl⟩⟩
                case measure => simp [intOf]; omega
              · have HKn' := Lib.hid (HKn.out he)
                have heb : (di == id) = false := by simpa using he
                clear HKy HKn he
                go_wp2_with fail
                go_quiet (fail)
                go_wp2_with fail
                go_roundw
                case rel => exact ⟨j + 1, kk, by omega, by go_num, rfl, HKn'.out, hb4.trans ⟨rfl, rfl, rfl, Nat.le_refl _, fun _ _ => rfl⟩⟩
                case measure => simp [intOf]; omega
            · obtain rfl : j = m.length := by omega
              have hX4 := Lib.hid (hX3.below hb4)
              have HB4 := Lib.hid hB4
              have HOUT := Lib.hid HK.out.out
              have hnow0 : 0 ≤ now := hX3.a.a.now0
              obtain ⟨D0, D1, D2, D3, D4⟩ : _ ∧ _ ∧ _ ∧ _ ∧ _ := ⟨hB4.c0, hB4.c1, hB4.c2, hB4.c3, hB4.c4⟩
              clear hX3 hB3 hP3 hb4 HK hB4
              go_upto_if 79 with fail
              go_cut [7, 8] (fun s7 s8 wx => ∃ (now' : Int) (m' : List (Int × Int)) (F' : Nat → Prop), s8 = .int .i64 now' ∧ PJ w wx q p R F' now' m' s7 m')
              case first =>
                by_cases hd0 : do_ = 0
                · subst hd0
                  obtain ⟨⟨_, _⟩, ⟨_, _⟩, ⟨i20, i21⟩, ⟨i30, i31⟩, ⟨i40, i41⟩⟩ := HI.out
                  obtain ⟨t, ht⟩ : ∃ t, t = rel + (d - r) := ⟨_, rfl⟩
                  obtain ⟨S, hS⟩ : ∃ S, IntKind.i64.wrap (rel + d) = S := ⟨_, rfl⟩
                  have Ht := Lib.hid ht
                  have HSS := Lib.hid hS
                  by_cases hw : r < 1 ∨ d < r ∨ rel < 0 ∨ 1099511627776 < rel ∨ 1099511627776 - rel < d - r ∨ rel + (d - r) < now
                  · as_aux_lemma =>
                    have hA := Lib.hid (hX4.out.wait (id := id) (by omega) (waitM_wrong hw))
                    have HW := Lib.hid hw
                    clear hw ht hS HOUT hX4 HI HWF HL
                    go_wp2_with fail
                    refine hA.out.mono ?_
                    rintro e w5 ⟨rfl, F5, hX5, hF5, hf5⟩
                    have hB5 := HB4.out.turn hF5 hf5
                    clear D0 D1 D2 D3 D4 hA HB4 hF5 hf5
                    obtain ⟨D0, D1, D2, D3, D4⟩ : _ ∧ _ ∧ _ ∧ _ ∧ _ := ⟨hB5.c0, hB5.c1, hB5.c2, hB5.c3, hB5.c4⟩
                    have HX5 := Lib.hid hX5
                    clear hX5 hB5
                    go_upto_region 24 with fail
                    by_cases c1 : r < 1
                    · as_aux_lemma =>
                      go_wp2_with fail
                      go_meet
                      case rel => exact ⟨now, m, F5, rfl, HX5.out⟩
                    by_cases c2' : d < r
                    · as_aux_lemma =>
                      go_wp2_with fail
                      go_meet
                      case rel => exact ⟨now, m, F5, rfl, HX5.out⟩
                    by_cases c3 : rel < 0
                    · as_aux_lemma =>
                      go_wp2_with fail
                      go_meet
                      case rel => exact ⟨now, m, F5, rfl, HX5.out⟩
                    by_cases c4 : 1099511627776 < rel
                    · as_aux_lemma =>
                      go_wp2_with fail
                      go_meet
                      case rel => exact ⟨now, m, F5, rfl, HX5.out⟩
                    have hs1 : IntKind.i64.wrap (d - r) = d - r := IntWalk.i64_in _ (by omega)
                    have hs2 : IntKind.i64.wrap (1099511627776 - rel) = 1099511627776 - rel := IntWalk.i64_in _ (by omega)
                    by_cases c5 : 1099511627776 - rel < d - r
                    · as_aux_lemma =>
                      go_wp2_with fail
                      go_meet
                      case rel => exact ⟨now, m, F5, rfl, HX5.out⟩
                    · as_aux_lemma =>
                      have hs4 : IntKind.i64.wrap (S - r) = t := by
                        have e := HSS.out
                        rw [← e, Ht.out, IntKind.wrap_i64, IntKind.wrap_i64]; omega
                      have c6 : t < now := by have := HW.out; have := Ht.out; omega
                      have hs3 := HSS.out
                      go_wp2_with fail
                      go_meet
                      case rel => exact ⟨now, m, F5, rfl, HX5.out⟩
                  · have c1 : ¬ r < 1 := by omega
                    have c2' : ¬ d < r := by omega
                    have c3 : ¬ rel < 0 := by omega
                    have c4 : ¬ 1099511627776 < rel := by omega
                    have c5 : ¬ 1099511627776 - rel < d - r := by omega
                    have c6 : ¬ t < now := by omega
                    have hs1 : IntKind.i64.wrap (d - r) = d - r := IntWalk.i64_in _ (by omega)
                    have hs2 : IntKind.i64.wrap (1099511627776 - rel) = 1099511627776 - rel := IntWalk.i64_in _ (by omega)
                    have hs4 : IntKind.i64.wrap (S - r) = t := by
                      rw [← hS, ht, IntKind.wrap_i64, IntKind.wrap_i64]; omega
                    have htm : t ≤ 1099511627776 := by omega
                    have HN : Hid ((addM now R m (t, id)).1 ≠ 0 → waitM now R m id rel d r = (0, (addM now R m (t, id)).1, m)) := fun hne => by
                      rw [ht] at hne ⊢
                      exact waitM_no (by omega) (by omega) (by omega) (by omega) hne
                    have HY : Hid ((addM now R m (t, id)).1 = 0 → waitM now R m id rel d r = (t, 0, (addM now R m (t, id)).2)) := fun he => by
                      rw [ht] at he ⊢
                      exact waitM_ok (by omega) (by omega) (by omega) (by omega) he
                    clear ht Ht hw
                    rcases HOUT.out with ⟨rfl, hany⟩ | ⟨qi, hq, rfl, hid, hany⟩
                    · by_cases hfull : m.length = R
                      · as_aux_lemma =>
                        have hE : addM now R m (t, id) = (3, m) := by unfold addM; rw [if_neg (by simp; omega), if_neg (by simp [hany]), if_pos (by omega)]
                        have hE2 := HN.out (by rw [hE]; simp)
                        rw [hE] at hE2
                        have hA := Lib.hid (hX4.out.wait (by omega) hE2)
                        have hfb : ((m.length : Int) == (R : Int)) = true := by simp; omega
                        clear HOUT hany hfull hE hE2 HN HY HI HWF HL hX4
                        go_wp2_with fail
                        refine hA.out.mono ?_
                        rintro e w5 ⟨rfl, F5, hX5, hF5, hf5⟩
                        have hB5 := HB4.out.turn hF5 hf5
                        clear D0 D1 D2 D3 D4 hA HB4 hF5 hf5
                        obtain ⟨D0, D1, D2, D3, D4⟩ : _ ∧ _ ∧ _ ∧ _ ∧ _ := ⟨hB5.c0, hB5.c1, hB5.c2, hB5.c3, hB5.c4⟩
                        have HX5 := Lib.hid hX5
                        clear hX5 hB5
                        go_wp2_with fail
                        go_meet
                        case rel => exact ⟨now, m, F5, rfl, HX5.out⟩
                      · as_aux_lemma =>
                        have hE : addM now R m (t, id) = (0, ins (t, id) m) := by unfold addM; rw [if_neg (by simp; omega), if_neg (by simp [hany]), if_neg (by omega)]
                        have hE2 := HY.out (by rw [hE])
                        rw [hE] at hE2
                        have hA := Lib.hid (hX4.out.wait (by omega) hE2)
                        have hfb : ((m.length : Int) == (R : Int)) = false := by simp; omega
                        clear HOUT hany hfull hE hE2 HN HY HI HWF HL hX4
                        go_wp2_with fail
                        refine hA.out.mono ?_
                        rintro e w5 ⟨rfl, F5, hX5, hF5, hf5⟩
                        have hB5 := HB4.out.turn hF5 hf5
                        clear D0 D1 D2 D3 D4 hA HB4 hF5 hf5
                        obtain ⟨D0, D1, D2, D3, D4⟩ : _ ∧ _ ∧ _ ∧ _ ∧ _ := ⟨hB5.c0, hB5.c1, hB5.c2, hB5.c3, hB5.c4⟩
                        have HX5 := Lib.hid hX5
                        have HB5 := Lib.hid hB5
                        have HPm : Hid (PairsIn w5.heap.size w5 a2 m.length (sw m)) := by
                          obtain ⟨a3, c3, e3, h3, _⟩ := hX5.s
                          rw [sw_len] at e3 h3
                          simp only [Value.slice.injEq] at e3
                          obtain ⟨rfl, _, rfl⟩ := e3
                          exact h3
                        clear hX5 hB5
                        go_wp2_with fail
                        clear D0 D2 D3 D4 D1
                        go_loopw [17] (fun sj wr => ∃ j : Nat, j ≤ m.length ∧ sj = .int .i64 j ∧ Hid (∀ i (h : i < m.length), i < j → ltD m[i] (t, id) = true) ∧ Below w5.heap.size w5 wr) (fun sj _ => m.length - (intOf sj).toNat)
                        case atStart => exact ⟨0, Nat.zero_le _, rfl, fun i h hi => by omega, Below.refl _ _⟩
                        case round =>
                          obtain ⟨j, hj, rfl, HJ, hb6⟩ := hrel
                          have D1 := (HB5.out.below hb6).c1
                          have HB6 := Lib.hid hb6
                          go_upto_region 32 with fail
                          go_cut [181] (fun s wx => ∃ bb : Bool, s = .bool bb ∧ Hid (bb = true ↔ ∃ h : j < m.length, ltD m[j] (t, id) = true) ∧ Below w5.heap.size w5 wx)
                          case first =>
                            by_cases hjl : j < m.length
                            · obtain ⟨b4, o4, rfl, hb4B, hcc⟩ := jobs_get (HPm.out.keep hb6) (by omega)
                              obtain ⟨hc0, hc1⟩ := hcc j hjl
                              have hjI : (j : Int) < (m.length : Int) := by omega
                              have HX : Hid (∀ bb : Bool, ltD m[j] (t, id) = bb → (bb = true ↔ ∃ h : j < m.length, ltD m[j] (t, id) = true)) := by
                                intro bb he
                                rw [← he]
                                exact ⟨fun h => ⟨hjl, h⟩, fun ⟨_, h⟩ => h⟩
                              have hmj : m[j] = (m[j].1, m[j].2) := rfl
                              rw [hmj] at HX
                              generalize m[j].1 = y1 at *
                              generalize m[j].2 = y2 at *
                              clear hcc HJ hb6 hmj
                              by_cases t1 : y1 < t
                              · as_aux_lemma =>
                                have Hlt : Hid (ltD (y1, y2) (t, id) = true) := by show _ = _; rw [ltD_iff]; left; exact t1
                                go_wp2_with fail
                                go_quiet (fail)
                                go_wp2_with fail
                                go_meet
                                case rel => exact ⟨true, rfl, HX.out _ Hlt.out, bel_drewN HB6.out _⟩
                              · by_cases t2 : y1 = t
                                · by_cases t3 : y2 < id
                                  · as_aux_lemma =>
                                    have Hlt : Hid (ltD (y1, y2) (t, id) = true) := by show _ = _; rw [ltD_iff]; right; exact ⟨t2, t3⟩
                                    subst t2
                                    go_wp2_with fail
                                    go_quiet (fail)
                                    go_wp2_with fail
                                    go_meet
                                    case rel => exact ⟨true, rfl, HX.out _ Hlt.out, bel_drewN HB6.out _⟩
                                  · as_aux_lemma =>
                                    have Hge : Hid (ltD (y1, y2) (t, id) = false) := by show _ = _; rw [ltD_not]; simp; omega
                                    subst t2
                                    go_wp2_with fail
                                    go_quiet (fail)
                                    go_wp2_with fail
                                    go_meet
                                    case rel => exact ⟨false, (by first | rfl | exact congrArg Value.bool (decide_eq_false (Int.not_lt.2 t3))), HX.out _ Hge.out, bel_drewN HB6.out _⟩
                                · as_aux_lemma =>
                                  have Hge : Hid (ltD (y1, y2) (t, id) = false) := by show _ = _; rw [ltD_not]; simp; omega
                                  go_wp2_with fail
                                  go_quiet (fail)
                                  go_wp2_with fail
                                  go_meet
                                  case rel => exact ⟨false, (by first | rfl | exact congrArg Value.bool (decide_eq_false (Int.not_lt.2 t1))), HX.out _ Hge.out, bel_drewN HB6.out _⟩
                            · as_aux_lemma =>
                              obtain rfl : j = m.length := by omega
                              clear HJ hb6
                              go_wp2_with fail
                              go_quiet (fail)
                              go_wp2_with fail
                              go_meet
                              case rel => exact ⟨false, rfl, ⟨fun h => by simp at h, fun ⟨h, _⟩ => by omega⟩, bel_drewN HB6.out _⟩
                          case rest =>
                            clear D1 hb6 HB6
                            obtain ⟨bb, rfl, Hbb, hb7⟩ := hcut
                            cases bb
                            rotate_left
                            · as_aux_lemma =>
                              obtain ⟨hjl, hle⟩ := Hbb.out.1 rfl
                              have HJ2 : Hid (∀ i (h : i < m.length), i < j + 1 → ltD m[i] (t, id) = true) := by
                                intro i h hi
                                rcases Nat.lt_or_ge i j with hij | hij
                                · exact HJ.out i h hij
                                · obtain rfl : i = j := by omega
                                  exact hle
                              clear hle HJ Hbb
                              go_wp2_with fail
                              go_roundw
                              case rel => exact ⟨j + 1, by omega, by go_num, HJ2, hb7⟩
                              case measure => simp [intOf]; omega
                            · as_aux_lemma =>
                              have hins : ins (t, id) m = m.take j ++ (t, id) :: m.drop j := ins_at _ m j HJ.out (fun h => by
                                cases hc : ltD m[j] (t, id)
                                · rfl
                                · have := Hbb.out.2 ⟨h, hc⟩; simp at this) hj
                              have Hins := Lib.hid hins
                              have HXw := Lib.hid (HX5.out.below hb7)
                              have HPw := Lib.hid ((HPm.out.keep hb7))
                              have HCl : Hid (∀ W, Below wc.heap.size wc W → W.cell? ⟨bx, 1, none⟩ = some (.int .i64 id) ∧ Below wc.heap.size wc W) := fun W hW => ⟨((HB5.out.below hb7).below hW).c1, hW⟩
                              have HPc : Hid (PairsIn wc.heap.size wc a2 m.length (sw m)) := by
                                obtain ⟨a3, c3, e3, h3, _⟩ := HXw.out.s
                                rw [sw_len] at e3 h3
                                simp only [Value.slice.injEq] at e3
                                obtain ⟨rfl, _, rfl⟩ := e3
                                exact h3
                              have hP : Below wc.heap.size wc wc := Below.refl _ _
                              have hltc : wc.heap.size ≤ wc.heap.size := Nat.le_refl _
                              clear hins HJ Hbb HPw HPm HB5 HX5 hb7
                              rcases hH with ⟨rfl, hm0, rfl⟩ | ⟨b4, o4, rfl, hmc, hc9⟩
                              · as_aux_lemma =>
                                obtain rfl : m = [] := List.eq_nil_of_length_eq_zero hm0
                                obtain rfl : j = 0 := by simpa using hj
                                obtain ⟨L1, hL1⟩ : ∃ L, L = ([] : List (Int × Int)) := ⟨_, rfl⟩
                                obtain ⟨L3, hL3⟩ : ∃ L, L = ([] : List (Int × Int)) := ⟨_, rfl⟩
                                have HS1 : Hid (∀ W, Below wc.heap.size wc W → Src W (.slice none 0 0) 0 (L1.flatMap dueC)) := fun W _ => .inl ⟨rfl, rfl⟩
                                have HS3 : Hid (∀ W, Below wc.heap.size wc W → Src W (.slice none 0 0) 0 (L3.flatMap dueC)) := fun W _ => .inl ⟨rfl, rfl⟩
                                have Htk : Hid (L1.length = 0) := by show _ = _; rw [hL1]; rfl
                                have Hdk : Hid (L3.length = 0) := by show _ = _; rw [hL3]; rfl
                                have HLs : Hid ([] ++ L1 ++ [(id, t)] ++ L3 = sw (ins (t, id) [])) := by show _ = _; rw [hL1, hL3, Hins.out]; rfl
                                have hbk : 0 + 0 ≤ 4096 := by omega
                                have hbk1 : 0 + 0 + 1 ≤ 4096 := by omega
                                have hbk2 : 0 + 0 + 1 + 0 ≤ 4096 := by omega
                                have Hln : Hid (0 + 0 + 1 + 0 = (ins (t, id) []).length) := rfl
                                clear hL1 hL3 Hins HPc
                                go_wp2_with fail
                                go_region_held3 (fun w' => w'.cell? ⟨bx, 1, none⟩ = some (.int .i64 id) ∧ Below wc.heap.size wc w') ((refine HCl.out _ ?_; (focus repeat (first | (with_reducible assumption) | (with_reducible refine bel_alloc ?_ _) | (with_reducible refine bel_drew ?_)))))
                                  ((first | ((refine step_bel58 (w0 := wc) ?_ (.tmp 184) (.tmp 187) ?_ 0 0 [] L1 (Value.slice (some ⟨wc.heap.size, 0, none⟩) 0 0) (Value.slice none 0 0) ?_ ?_ ?_ ?_ ?_ Htk.out hbk ?_; rfl; rfl; rfl; rfl; (focus repeat (first | (with_reducible assumption) | (with_reducible refine bel_alloc ?_ _) | (with_reducible refine bel_drew ?_))); (focus repeat (first | (with_reducible assumption) | ((with_reducible refine own_lit258 _ _ _ _ ?_ ?_); rfl; assumption) | ((with_reducible refine own_lit58 _ _ _ ?_ ?_); (first | rfl | (simp; done)); (first | omega | (simp; done) | (simp; omega))) | (with_reducible refine World.ownsRow.drew ?_) | (with_reducible refine World.ownsRow.alloc ?_ _))); (refine HS1.out _ ?_; (focus repeat (first | (with_reducible assumption) | (with_reducible refine bel_alloc ?_ _) | (with_reducible refine bel_drew ?_)))); intro v1 w1 hown1 hP1 hgrow1)) | ((refine step_bel58 (w0 := wc) ?_ (.tmp 184) (.tmp 187) ?_ 0 0 [] L1 (Value.slice (some ⟨wc.heap.size + 1, 0, none⟩) 0 0) (Value.slice none 0 0) ?_ ?_ ?_ ?_ ?_ Htk.out hbk ?_; rfl; rfl; rfl; rfl; (focus repeat (first | (with_reducible assumption) | (with_reducible refine bel_alloc ?_ _) | (with_reducible refine bel_drew ?_))); (focus repeat (first | (with_reducible assumption) | ((with_reducible refine own_lit258 _ _ _ _ ?_ ?_); rfl; assumption) | ((with_reducible refine own_lit58 _ _ _ ?_ ?_); (first | rfl | (simp; done)); (first | omega | (simp; done) | (simp; omega))) | (with_reducible refine World.ownsRow.drew ?_) | (with_reducible refine World.ownsRow.alloc ?_ _))); (refine HS1.out _ ?_; (focus repeat (first | (with_reducible assumption) | (with_reducible refine bel_alloc ?_ _) | (with_reducible refine bel_drew ?_)))); intro v1 w1 hown1 hP1 hgrow1)) | ((refine step_bel58 (w0 := wc) ?_ (.tmp 188) (.tmp 193) ?_ (0 + 0) 1 ([] ++ L1) [(id, t)] v1 (Value.slice (some ⟨w1.heap.size, 0, none⟩) 1 1) ?_ ?_ ?_ ?_ ?_ rfl hbk1 ?_; rfl; rfl; rfl; rfl; (focus repeat (first | (with_reducible assumption) | (with_reducible refine bel_alloc ?_ _) | (with_reducible refine bel_drew ?_))); (focus repeat (first | (with_reducible assumption) | ((with_reducible refine own_lit258 _ _ _ _ ?_ ?_); rfl; assumption) | ((with_reducible refine own_lit58 _ _ _ ?_ ?_); (first | rfl | (simp; done)); (first | omega | (simp; done) | (simp; omega))) | (with_reducible refine World.ownsRow.drew ?_) | (with_reducible refine World.ownsRow.alloc ?_ _))); (focus repeat (first | ((with_reducible refine src_new58 _ id t _ ?_); (first | rfl | (simp; done))) | (with_reducible refine src_drew ?_) | ((with_reducible refine src_alloc ?_ ?_ _); rotate_left; (focus (first | (simp; done) | (simp; omega))); rotate_left) | ((with_reducible refine src_far ?_ hgrow1 ?_ ?_); rotate_left; (focus (first | (simp; done) | (simp; omega))); (focus (simp [Value.ownBlock])); rotate_left))); intro v2 w2 hown2 hP2 hgrow2)) | ((refine step_bel58 (w0 := wc) ?_ (.tmp 188) (.tmp 193) ?_ (0 + 0) 1 ([] ++ L1) [(id, t)] v1 (Value.slice (some ⟨wc.heap.size, 0, none⟩) 1 1) ?_ ?_ ?_ ?_ ?_ rfl hbk1 ?_; rfl; rfl; rfl; rfl; (focus repeat (first | (with_reducible assumption) | (with_reducible refine bel_alloc ?_ _) | (with_reducible refine bel_drew ?_))); (focus repeat (first | (with_reducible assumption) | ((with_reducible refine own_lit258 _ _ _ _ ?_ ?_); rfl; assumption) | ((with_reducible refine own_lit58 _ _ _ ?_ ?_); (first | rfl | (simp; done)); (first | omega | (simp; done) | (simp; omega))) | (with_reducible refine World.ownsRow.drew ?_) | (with_reducible refine World.ownsRow.alloc ?_ _))); (focus repeat (first | ((with_reducible refine src_new58 _ id t _ ?_); (first | rfl | (simp; done))) | (with_reducible refine src_drew ?_) | ((with_reducible refine src_alloc ?_ ?_ _); rotate_left; (focus (first | (simp; done) | (simp; omega))); rotate_left) | ((with_reducible refine src_far ?_ hgrow1 ?_ ?_); rotate_left; (focus (first | (simp; done) | (simp; omega))); (focus (simp [Value.ownBlock])); rotate_left))); intro v2 w2 hown2 hP2 hgrow2)) | ((refine step_bel58 (w0 := wc) ?_ (.tmp 188) (.tmp 193) ?_ (0 + 0) 1 ([] ++ L1) [(id, t)] v1 (Value.slice (some ⟨wc.heap.size + 1, 0, none⟩) 1 1) ?_ ?_ ?_ ?_ ?_ rfl hbk1 ?_; rfl; rfl; rfl; rfl; (focus repeat (first | (with_reducible assumption) | (with_reducible refine bel_alloc ?_ _) | (with_reducible refine bel_drew ?_))); (focus repeat (first | (with_reducible assumption) | ((with_reducible refine own_lit258 _ _ _ _ ?_ ?_); rfl; assumption) | ((with_reducible refine own_lit58 _ _ _ ?_ ?_); (first | rfl | (simp; done)); (first | omega | (simp; done) | (simp; omega))) | (with_reducible refine World.ownsRow.drew ?_) | (with_reducible refine World.ownsRow.alloc ?_ _))); (focus repeat (first | ((with_reducible refine src_new58 _ id t _ ?_); (first | rfl | (simp; done))) | (with_reducible refine src_drew ?_) | ((with_reducible refine src_alloc ?_ ?_ _); rotate_left; (focus (first | (simp; done) | (simp; omega))); rotate_left) | ((with_reducible refine src_far ?_ hgrow1 ?_ ?_); rotate_left; (focus (first | (simp; done) | (simp; omega))); (focus (simp [Value.ownBlock])); rotate_left))); intro v2 w2 hown2 hP2 hgrow2)) | ((refine step_bel58 (w0 := wc) ?_ (.tmp 194) (.tmp 197) ?_ (0 + 0 + 1) 0 ([] ++ L1 ++ [(id, t)]) L3 v2 (Value.slice none 0 0) ?_ ?_ ?_ ?_ ?_ Hdk.out hbk2 ?_; rfl; rfl; rfl; rfl; (focus repeat (first | (with_reducible assumption) | (with_reducible refine bel_alloc ?_ _) | (with_reducible refine bel_drew ?_))); (focus repeat (first | (with_reducible assumption) | ((with_reducible refine own_lit258 _ _ _ _ ?_ ?_); rfl; assumption) | ((with_reducible refine own_lit58 _ _ _ ?_ ?_); (first | rfl | (simp; done)); (first | omega | (simp; done) | (simp; omega))) | (with_reducible refine World.ownsRow.drew ?_) | (with_reducible refine World.ownsRow.alloc ?_ _))); (refine HS3.out _ ?_; (focus repeat (first | (with_reducible assumption) | (with_reducible refine bel_alloc ?_ _) | (with_reducible refine bel_drew ?_)))); intro v3 w3 hown3 hP3 hgrow3))))
                                all_goals go_wp2_with fail
                                all_goals
                                  go_meet
                                  case rel => exact ⟨now, _, F5, rfl, HXw.out.own hP3 Hln.out (by rw [← HLs.out]; exact hown3)⟩
                              · as_aux_lemma =>
                                obtain ⟨L1, hL1⟩ : ∃ L, L = (sw m).take j := ⟨_, rfl⟩
                                obtain ⟨L3, hL3⟩ : ∃ L, L = (sw m).drop j := ⟨_, rfl⟩
                                have HS1 : Hid (∀ W, Below wc.heap.size wc W → Src W (.slice (some ⟨b4, o4, none⟩) j c2) j (L1.flatMap dueC)) := fun W hW => by rw [hL1]; exact src_take HPc.out hW hj
                                have HS3 : Hid (∀ W, Below wc.heap.size wc W → Src W (.slice (if c2 = j then some ⟨b4, o4, none⟩ else some ⟨b4, o4 + j * 2, none⟩) (m.length - j) (c2 - j)) (m.length - j) (L3.flatMap dueC)) := fun W hW => by rw [hL3]; exact src_drop HPc.out hW hj hmc
                                have Htk : Hid (L1.length = j) := by show _ = _; rw [hL1, List.length_take, sw_len]; omega
                                have Hdk : Hid (L3.length = m.length - j) := by show _ = _; rw [hL3, List.length_drop, sw_len]
                                have HLs : Hid ([] ++ L1 ++ [(id, t)] ++ L3 = sw (ins (t, id) m)) := by show _ = _; rw [hL1, hL3, Hins.out]; simp [sw, List.map_take, List.map_drop]
                                have hbk : 0 + j ≤ 4096 := by omega
                                have hbk1 : 0 + j + 1 ≤ 4096 := by omega
                                have hbk2 : 0 + j + 1 + (m.length - j) ≤ 4096 := by omega
                                have Hln : Hid (0 + j + 1 + (m.length - j) = (ins (t, id) m).length) := by show _ = _; rw [(ins_perm _ _).length_eq, List.length_cons]; omega
                                have k2 : (j : Int) ≤ (c2 : Int) := by omega
                                have k4 : (m.length : Int) ≤ (c2 : Int) := by omega
                                have k5 : (j : Int) ≤ (m.length : Int) := by omega
                                have k0 : (0 : Int) ≤ (j : Int) := by omega
                                clear hL1 hL3 Hins HPc
                                go_wp2_with fail
                                go_region_held3 (fun w' => w'.cell? ⟨bx, 1, none⟩ = some (.int .i64 id) ∧ Below wc.heap.size wc w') ((refine HCl.out _ ?_; (focus repeat (first | (with_reducible assumption) | (with_reducible refine bel_alloc ?_ _) | (with_reducible refine bel_drew ?_)))))
                                  ((first | ((refine step_bel58 (w0 := wc) ?_ (.tmp 184) (.tmp 187) ?_ 0 j [] L1 (Value.slice (some ⟨wc.heap.size, 0, none⟩) 0 0) (Value.slice (some ⟨b4, o4, none⟩) j c2) ?_ ?_ ?_ ?_ ?_ Htk.out hbk ?_; rfl; rfl; rfl; rfl; (focus repeat (first | (with_reducible assumption) | (with_reducible refine bel_alloc ?_ _) | (with_reducible refine bel_drew ?_))); (focus repeat (first | (with_reducible assumption) | ((with_reducible refine own_lit258 _ _ _ _ ?_ ?_); rfl; assumption) | ((with_reducible refine own_lit58 _ _ _ ?_ ?_); (first | rfl | (simp; done)); (first | omega | (simp; done) | (simp; omega))) | (with_reducible refine World.ownsRow.drew ?_) | (with_reducible refine World.ownsRow.alloc ?_ _))); (refine HS1.out _ ?_; (focus repeat (first | (with_reducible assumption) | (with_reducible refine bel_alloc ?_ _) | (with_reducible refine bel_drew ?_)))); intro v1 w1 hown1 hP1 hgrow1)) | ((refine step_bel58 (w0 := wc) ?_ (.tmp 184) (.tmp 187) ?_ 0 j [] L1 (Value.slice (some ⟨wc.heap.size + 1, 0, none⟩) 0 0) (Value.slice (some ⟨b4, o4, none⟩) j c2) ?_ ?_ ?_ ?_ ?_ Htk.out hbk ?_; rfl; rfl; rfl; rfl; (focus repeat (first | (with_reducible assumption) | (with_reducible refine bel_alloc ?_ _) | (with_reducible refine bel_drew ?_))); (focus repeat (first | (with_reducible assumption) | ((with_reducible refine own_lit258 _ _ _ _ ?_ ?_); rfl; assumption) | ((with_reducible refine own_lit58 _ _ _ ?_ ?_); (first | rfl | (simp; done)); (first | omega | (simp; done) | (simp; omega))) | (with_reducible refine World.ownsRow.drew ?_) | (with_reducible refine World.ownsRow.alloc ?_ _))); (refine HS1.out _ ?_; (focus repeat (first | (with_reducible assumption) | (with_reducible refine bel_alloc ?_ _) | (with_reducible refine bel_drew ?_)))); intro v1 w1 hown1 hP1 hgrow1)) | ((refine step_bel58 (w0 := wc) ?_ (.tmp 188) (.tmp 193) ?_ (0 + j) 1 ([] ++ L1) [(id, t)] v1 (Value.slice (some ⟨w1.heap.size, 0, none⟩) 1 1) ?_ ?_ ?_ ?_ ?_ rfl hbk1 ?_; rfl; rfl; rfl; rfl; (focus repeat (first | (with_reducible assumption) | (with_reducible refine bel_alloc ?_ _) | (with_reducible refine bel_drew ?_))); (focus repeat (first | (with_reducible assumption) | ((with_reducible refine own_lit258 _ _ _ _ ?_ ?_); rfl; assumption) | ((with_reducible refine own_lit58 _ _ _ ?_ ?_); (first | rfl | (simp; done)); (first | omega | (simp; done) | (simp; omega))) | (with_reducible refine World.ownsRow.drew ?_) | (with_reducible refine World.ownsRow.alloc ?_ _))); (focus repeat (first | ((with_reducible refine src_new58 _ id t _ ?_); (first | rfl | (simp; done))) | (with_reducible refine src_drew ?_) | ((with_reducible refine src_alloc ?_ ?_ _); rotate_left; (focus (first | (simp; done) | (simp; omega))); rotate_left) | ((with_reducible refine src_far ?_ hgrow1 ?_ ?_); rotate_left; (focus (first | (simp; done) | (simp; omega))); (focus (simp [Value.ownBlock])); rotate_left))); intro v2 w2 hown2 hP2 hgrow2)) | ((refine step_bel58 (w0 := wc) ?_ (.tmp 188) (.tmp 193) ?_ (0 + j) 1 ([] ++ L1) [(id, t)] v1 (Value.slice (some ⟨wc.heap.size, 0, none⟩) 1 1) ?_ ?_ ?_ ?_ ?_ rfl hbk1 ?_; rfl; rfl; rfl; rfl; (focus repeat (first | (with_reducible assumption) | (with_reducible refine bel_alloc ?_ _) | (with_reducible refine bel_drew ?_))); (focus repeat (first | (with_reducible assumption) | ((with_reducible refine own_lit258 _ _ _ _ ?_ ?_); rfl; assumption) | ((with_reducible refine own_lit58 _ _ _ ?_ ?_); (first | rfl | (simp; done)); (first | omega | (simp; done) | (simp; omega))) | (with_reducible refine World.ownsRow.drew ?_) | (with_reducible refine World.ownsRow.alloc ?_ _))); (focus repeat (first | ((with_reducible refine src_new58 _ id t _ ?_); (first | rfl | (simp; done))) | (with_reducible refine src_drew ?_) | ((with_reducible refine src_alloc ?_ ?_ _); rotate_left; (focus (first | (simp; done) | (simp; omega))); rotate_left) | ((with_reducible refine src_far ?_ hgrow1 ?_ ?_); rotate_left; (focus (first | (simp; done) | (simp; omega))); (focus (simp [Value.ownBlock])); rotate_left))); intro v2 w2 hown2 hP2 hgrow2)) | ((refine step_bel58 (w0 := wc) ?_ (.tmp 188) (.tmp 193) ?_ (0 + j) 1 ([] ++ L1) [(id, t)] v1 (Value.slice (some ⟨wc.heap.size + 1, 0, none⟩) 1 1) ?_ ?_ ?_ ?_ ?_ rfl hbk1 ?_; rfl; rfl; rfl; rfl; (focus repeat (first | (with_reducible assumption) | (with_reducible refine bel_alloc ?_ _) | (with_reducible refine bel_drew ?_))); (focus repeat (first | (with_reducible assumption) | ((with_reducible refine own_lit258 _ _ _ _ ?_ ?_); rfl; assumption) | ((with_reducible refine own_lit58 _ _ _ ?_ ?_); (first | rfl | (simp; done)); (first | omega | (simp; done) | (simp; omega))) | (with_reducible refine World.ownsRow.drew ?_) | (with_reducible refine World.ownsRow.alloc ?_ _))); (focus repeat (first | ((with_reducible refine src_new58 _ id t _ ?_); (first | rfl | (simp; done))) | (with_reducible refine src_drew ?_) | ((with_reducible refine src_alloc ?_ ?_ _); rotate_left; (focus (first | (simp; done) | (simp; omega))); rotate_left) | ((with_reducible refine src_far ?_ hgrow1 ?_ ?_); rotate_left; (focus (first | (simp; done) | (simp; omega))); (focus (simp [Value.ownBlock])); rotate_left))); intro v2 w2 hown2 hP2 hgrow2)) | ((refine step_bel58 (w0 := wc) ?_ (.tmp 194) (.tmp 197) ?_ (0 + j + 1) (m.length - j) ([] ++ L1 ++ [(id, t)]) L3 v2 (Value.slice (if c2 = j then some ⟨b4, o4, none⟩ else some ⟨b4, o4 + j * 2, none⟩) (m.length - j) (c2 - j)) ?_ ?_ ?_ ?_ ?_ Hdk.out hbk2 ?_; rfl; rfl; rfl; rfl; (focus repeat (first | (with_reducible assumption) | (with_reducible refine bel_alloc ?_ _) | (with_reducible refine bel_drew ?_))); (focus repeat (first | (with_reducible assumption) | ((with_reducible refine own_lit258 _ _ _ _ ?_ ?_); rfl; assumption) | ((with_reducible refine own_lit58 _ _ _ ?_ ?_); (first | rfl | (simp; done)); (first | omega | (simp; done) | (simp; omega))) | (with_reducible refine World.ownsRow.drew ?_) | (with_reducible refine World.ownsRow.alloc ?_ _))); (refine HS3.out _ ?_; (focus repeat (first | (with_reducible assumption) | (with_reducible refine bel_alloc ?_ _) | (with_reducible refine bel_drew ?_)))); intro v3 w3 hown3 hP3 hgrow3))))
                                all_goals go_wp2_with fail
                                all_goals
                                  go_meet
                                  case rel => exact ⟨now, _, F5, rfl, HXw.out.own hP3 Hln.out (by rw [← HLs.out]; exact hown3)⟩
                    · as_aux_lemma =>
                      have hE : addM now R m (t, id) = (7, m) := by unfold addM; rw [if_neg (by simp; omega), if_pos (by simpa using hany)]
                      have hE2 := HN.out (by rw [hE]; simp)
                      rw [hE] at hE2
                      have hA := Lib.hid (hX4.out.wait (by omega) hE2)
                      have hq0 : (0 : Int) ≤ (qi : Int) := by omega
                      clear HOUT hany hid hE hE2 HN HY HI HWF HL hX4
                      go_wp2_with fail
                      refine hA.out.mono ?_
                      rintro e w5 ⟨rfl, F5, hX5, hF5, hf5⟩
                      have hB5 := HB4.out.turn hF5 hf5
                      clear D0 D1 D2 D3 D4 hA HB4 hF5 hf5
                      obtain ⟨D0, D1, D2, D3, D4⟩ : _ ∧ _ ∧ _ ∧ _ ∧ _ := ⟨hB5.c0, hB5.c1, hB5.c2, hB5.c3, hB5.c4⟩
                      have HX5 := Lib.hid hX5
                      clear hX5 hB5
                      go_wp2_with fail
                      go_meet
                      case rel => exact ⟨now, m, F5, rfl, HX5.out⟩
                · have hd0b : (do_ == 0) = false := by simpa using hd0
                  by_cases hd1 : do_ = 1
                  · subst hd1
                    clear hd0 hd0b
                    rcases HOUT.out with ⟨rfl, hany⟩ | ⟨qi, hq, rfl, hid, hany⟩
                    · as_aux_lemma =>
                      have hC := hX4.out.drop id
                      rw [hany, filter_none hany] at hC
                      have HC := Lib.hid hC
                      clear HOUT hany hC
                      go_wp2_with fail
                      refine HC.out.mono ?_
                      rintro e w5 ⟨rfl, F5, hX5, _, _⟩
                      go_wp2_with fail
                      go_meet
                      case rel => exact ⟨now, m, F5, rfl, hX5⟩
                    · have hC := hX4.out.drop id
                      rw [hany, ← hid, filter_one hX4.out.a.a.ids qi hq] at hC
                      rw [hid] at hC
                      have HC := Lib.hid hC
                      have hq0 : (0 : Int) ≤ (qi : Int) := by omega
                      rcases hH with ⟨_, h0, _⟩ | ⟨b4, o4, rfl, hmc, hc9⟩
                      · omega
                      · as_aux_lemma =>
                        clear HOUT hany hC hid
                        go_wp2_with fail
                        refine HC.out.mono ?_
                        rintro e w5 ⟨rfl, F5, hX5, _, _⟩
                        go_wp2_with fail
                        have hP5 : PairsIn w5.heap.size w5 (some ⟨b4, o4, none⟩) m.length (sw m) := by
                          obtain ⟨a3, c3, e3, h3, _⟩ := hX5.s
                          rw [sw_len] at e3 h3
                          simp only [Value.slice.injEq] at e3
                          obtain ⟨rfl, _, rfl⟩ := e3
                          exact h3
                        have HX5 := Lib.hid hX5
                        obtain ⟨L1, hL1⟩ : ∃ L, L = (sw m).take qi := ⟨_, rfl⟩
                        obtain ⟨L3, hL3⟩ : ∃ L, L = (sw m).drop (qi + 1) := ⟨_, rfl⟩
                        have HS1 : Hid (∀ W, Below w5.heap.size w5 W → Src W (.slice (some ⟨b4, o4, none⟩) qi c2) qi (L1.flatMap dueC)) := fun W hW => by rw [hL1]; exact src_take hP5 hW (by omega)
                        have HS3 : Hid (∀ W, Below w5.heap.size w5 W → Src W (.slice (if c2 = qi + 1 then some ⟨b4, o4, none⟩ else some ⟨b4, o4 + (qi + 1) * 2, none⟩) (m.length - (qi + 1)) (c2 - (qi + 1))) (m.length - (qi + 1)) (L3.flatMap dueC)) := fun W hW => by rw [hL3]; exact src_drop hP5 hW (by omega) hmc
                        have Htk : Hid (L1.length = qi) := by show _ = _; rw [hL1, List.length_take, sw_len]; omega
                        have Hdk : Hid (L3.length = m.length - (qi + 1)) := by show _ = _; rw [hL3, List.length_drop, sw_len]
                        have HL1 : Hid (L1 ++ L3 = sw (m.take qi ++ m.drop (qi + 1))) := by show _ = _; rw [hL1, hL3, sw_app, sw_take, sw_drop]
                        have Hll : Hid (0 + qi + (m.length - (qi + 1)) = (m.take qi ++ m.drop (qi + 1)).length) := by show _ = _; rw [List.length_append, List.length_take, List.length_drop]; omega
                        have hP : Below w5.heap.size w5 w5 := Below.refl _ _
                        have k1 : (0 : Int) ≤ (qi : Int) + 1 := by omega
                        have k2 : (qi : Int) ≤ (c2 : Int) := by omega
                        have k3 : (qi : Int) + 1 ≤ (m.length : Int) := by omega
                        have k4 : (m.length : Int) ≤ (c2 : Int) := by omega
                        have k5 : (qi : Int) ≤ (m.length : Int) := by omega
                        have hbk : 0 + qi ≤ 4096 := by omega
                        have hbk2 : 0 + qi + (m.length - (qi + 1)) ≤ 4096 := by omega
                        have k6 : IntKind.i64.wrap ((qi : Int) + 1) = (qi : Int) + 1 := IntWalk.i64_in _ (by omega)
                        have k7 : ((qi : Int) + 1).toNat = qi + 1 := by omega
                        clear hL1 hL3 hX5 hP5 D0 D1 D2 D3 D4 HB4 HC hX4 HI HWF HL
                        go_region_held3 (fun w' => Below w5.heap.size w5 w') ((focus repeat (first | (with_reducible assumption) | (with_reducible refine bel_alloc ?_ _) | (with_reducible refine bel_drew ?_))))
                          (first | ((refine step_bel58 (w0 := w5) ?_ (.tmp 219) (.tmp 222) ?_ 0 qi [] L1 (Value.slice (some ⟨w5.heap.size, 0, none⟩) 0 0) (Value.slice (some ⟨b4, o4, none⟩) qi c2) ?_ ?_ ?_ ?_ ?_ Htk.out hbk ?_; rfl; rfl; rfl; rfl; (focus repeat (first | (with_reducible assumption) | (with_reducible refine bel_alloc ?_ _) | (with_reducible refine bel_drew ?_))); (focus repeat (first | (with_reducible assumption) | ((with_reducible refine own_lit258 _ _ _ _ ?_ ?_); rfl; (first | assumption | (simp; done))) | ((with_reducible refine own_lit58 _ _ _ ?_ ?_); (first | rfl | (simp; done)); (first | omega | (simp; done) | (simp; omega))) | (with_reducible refine World.ownsRow.drew ?_) | (with_reducible refine World.ownsRow.alloc ?_ _))); (refine HS1.out _ ?_; (focus repeat (first | (with_reducible assumption) | (with_reducible refine bel_alloc ?_ _) | (with_reducible refine bel_drew ?_)))); intro v1 w1 hown1 hP1 hgrow1)) | ((refine step_bel58 (w0 := w5) ?_ (.tmp 223) (.tmp 227) ?_ (0 + qi) (m.length - (qi + 1)) ([] ++ L1) L3 v1 (Value.slice (if c2 = qi + 1 then some ⟨b4, o4, none⟩ else some ⟨b4, o4 + (qi + 1) * 2, none⟩) (m.length - (qi + 1)) (c2 - (qi + 1))) ?_ ?_ ?_ ?_ ?_ Hdk.out hbk2 ?_; rfl; rfl; rfl; rfl; (with_reducible assumption); (with_reducible assumption); (refine HS3.out _ ?_; (with_reducible assumption)); intro v2 w2 hown2 hP2 hgrow2)))
                        all_goals go_wp2_with fail
                        all_goals
                          go_meet
                          case rel =>
                            exact ⟨now, _, F5, rfl, HX5.out.own hP2 Hll.out (by rw [← HL1.out]; simpa using hown2)⟩
                  · have hd1b : (do_ == 1) = false := by simpa using hd1
                    clear hd0 hd1 HOUT
                    by_cases hb1 : rel < now
                    · as_aux_lemma =>
                      have hA := Lib.hid (hX4.out.adv_bad rel (by omega))
                      go_wp2_with fail
                      refine hA.out.mono ?_
                      rintro e w5 ⟨rfl, hX5, hb5⟩
                      have hB5 := HB4.out.below hb5
                      clear D0 D1 D2 D3 D4
                      obtain ⟨D0, D1, D2, D3, D4⟩ : _ ∧ _ ∧ _ ∧ _ ∧ _ := ⟨hB5.c0, hB5.c1, hB5.c2, hB5.c3, hB5.c4⟩
                      go_wp2_with fail
                      go_roundw
                      case rel => exact ⟨k + 1, now, m, F, by omega, by go_num, rfl, hX5⟩
                      case measure => simp [intOf]; omega
                    · have hb1' : now ≤ rel := by omega
                      by_cases hb2 : 1099511627776 < rel
                      · as_aux_lemma =>
                        have hA := Lib.hid (hX4.out.adv_bad rel (by omega))
                        clear hb1
                        go_wp2_with fail
                        refine hA.out.mono ?_
                        rintro e w5 ⟨rfl, hX5, hb5⟩
                        have hB5 := HB4.out.below hb5
                        clear D0 D1 D2 D3 D4
                        obtain ⟨D0, D1, D2, D3, D4⟩ : _ ∧ _ ∧ _ ∧ _ ∧ _ := ⟨hB5.c0, hB5.c1, hB5.c2, hB5.c3, hB5.c4⟩
                        go_wp2_with fail
                        go_roundw
                        case rel => exact ⟨k + 1, now, m, F, by omega, by go_num, rfl, hX5⟩
                        case measure => simp [intOf]; omega
                      · as_aux_lemma =>
                        have hb2' : rel ≤ 1099511627776 := by omega
                        have hA := Lib.hid (hX4.out.adv rel hb1' hb2')
                        have Hsrt := Lib.hid hX4.out.a.a.srt
                        clear hb1 hb2
                        go_wp2_with fail
                        refine hA.out.mono ?_
                        rintro e w5 ⟨a5, c5, F5, rfl, hPx, hX5, hF5, hf5⟩
                        have hB5 := HB4.out.turn hF5 hf5
                        clear D0 D1 D2 D3 D4
                        have D2 := hB5.c2
                        have HPx := Lib.hid hPx
                        have HX5 := Lib.hid hX5
                        have hPm : PairsIn w5.heap.size w5 a2 m.length (sw m) := by
                          obtain ⟨a3, c3, e3, h3, _⟩ := hX5.s
                          rw [sw_len] at e3 h3
                          simp only [Value.slice.injEq] at e3
                          obtain ⟨rfl, _, rfl⟩ := e3
                          exact h3
                        obtain ⟨nx, hnx⟩ : ∃ nx, (m.filter fun d => decide (d.1 ≤ rel)).length = nx := ⟨_, rfl⟩
                        rw [hnx] at HPx ⊢
                        have Hnx := Lib.hid hnx
                        have HPm := Lib.hid hPm
                        clear hnx hPx hX5 hf5 hF5 hB5 HB4 hA hX4 hPm
                        go_wp2_with fail
                        go_loopw [20] (fun sj wr => ∃ j : Nat, j ≤ m.length ∧ sj = .int .i64 j ∧ Hid (∀ i (h : i < m.length), i < j → m[i].1 ≤ rel) ∧ Below w5.heap.size w5 wr) (fun sj _ => m.length - (intOf sj).toNat)
                        case atStart => exact ⟨0, Nat.zero_le _, rfl, fun i h hi => by omega, Below.refl _ _⟩
                        case round =>
                          obtain ⟨j, hj, rfl, HJ, hb6⟩ := hrel
                          have HB6 := Lib.hid hb6
                          by_cases hjl : j < m.length
                          · obtain ⟨b4, o4, ea2, hb4B, hcc⟩ := jobs_get (HPm.out.keep hb6) (by omega)
                            obtain ⟨hc0, hc1⟩ := hcc j hjl
                            have hjI : (j : Int) < (m.length : Int) := by omega
                            by_cases hle : m[j].1 ≤ rel
                            · as_aux_lemma =>
                              have HJ2 : Hid (∀ i (h : i < m.length), i < j + 1 → m[i].1 ≤ rel) := by
                                intro i h hi
                                rcases Nat.lt_or_ge i j with hij | hij
                                · exact HJ.out i h hij
                                · obtain rfl : i = j := by omega
                                  exact hle
                              obtain ⟨hjx, ex⟩ := due_get rel j hjl HJ2.out
                              rw [Hnx.out] at hjx
                              obtain ⟨b5, o5, ea5, hb5B, hx5⟩ := (IntsIn.keep HPx.out hb6).2 (by omega)
                              have hc5 := hx5 j (by rw [List.length_map, Hnx.out]; exact hjx)
                              rw [List.getElem_map, ex] at hc5
                              have hjxI : (j : Int) < (nx : Int) := by omega
                              subst ea2 ea5
                              generalize m[j].1 = tj at *
                              generalize m[j].2 = ij at *
                              clear hx5 hcc hb6 ex HJ
                              go_wp2_with fail
                              go_quiet (fail)
                              go_wp2_with fail
                              go_roundw
                              case rel => exact ⟨j + 1, by omega, by go_num, HJ2, HB6.out.trans ⟨rfl, rfl, rfl, Nat.le_refl _, fun _ _ => rfl⟩⟩
                              case measure => simp [intOf]; omega
                            · as_aux_lemma =>
                              obtain ⟨f1, f2⟩ := due_take Hsrt.out rel j hj HJ.out (fun h => by omega)
                              have hlj : (m.take j).length = j := by rw [List.length_take]; omega
                              obtain rfl : nx = j := by rw [← Hnx.out, f1, hlj]
                              have HX7 := HX5.out.below hb6
                              rw [f2] at HX7
                              rcases hH with ⟨rfl, h0, _⟩ | ⟨b4', o4', e4, hmc, hc9⟩
                              · omega
                              rw [e4] at ea2
                              simp only [Option.some.injEq, Addr.mk.injEq] at ea2
                              obtain ⟨rfl, rfl, _⟩ := ea2
                              subst e4
                              have hD := HX7.s
                              clear hD
                              have hD := Sl.drop (m := sw m) (by have := (HX5.out.below hb6).s; exact Sl.resl this) nx (by rw [sw_len]; omega)
                              rw [sw_len, ← sw_drop] at hD
                              have HXX := Lib.hid HX7
                              have hjc : (nx : Int) ≤ (c2 : Int) := by omega
                              have hjm : (nx : Int) ≤ (m.length : Int) := by omega
                              have hj0 : (0 : Int) ≤ (nx : Int) := by omega
                              have hmcI : (m.length : Int) ≤ (c2 : Int) := by omega
                              generalize m[nx].1 = tj at *
                              clear f1 f2 hlj HX7 HJ hb6 hcc hc0 Hsrt Hnx HPx HX5
                              by_cases hcj : c2 = nx
                              · omega
                              · rw [if_neg hcj] at hD
                                have HD := Lib.hid hD; clear hD
                                go_wp2_with fail
                                go_meet
                                case rel => exact ⟨rel, _, F5, rfl, HXX.out.a, HD.out⟩
                          · as_aux_lemma =>
                            obtain rfl : j = m.length := by omega
                            obtain ⟨f1, f2⟩ := due_take Hsrt.out rel m.length hj HJ.out (fun h => by omega)
                            obtain rfl : nx = m.length := by rw [← Hnx.out, f1, List.take_length]
                            have HX7 := HX5.out.below hb6
                            rw [f2] at HX7
                            have HXX := Lib.hid HX7
                            rcases hH with ⟨rfl, h0, rfl⟩ | ⟨b4, o4, rfl, hmc, hc9⟩
                            · have HD : Hid (Sl wr F5 (.slice none 0 0) (sw (m.drop m.length))) := by
                                rw [List.drop_length]; exact Sl.nil _ _
                              clear f1 f2 HX7 HJ hb6 Hsrt Hnx HPx HX5
                              have h0I : (m.length : Int) = 0 := by omega
                              go_wp2_with fail
                              go_meet
                              case rel => exact ⟨rel, _, F5, rfl, HXX.out.a, HD.out⟩
                            · have hD := Sl.drop (m := sw m) (by have := (HX5.out.below hb6).s; exact Sl.resl this) m.length (by rw [sw_len]; omega)
                              rw [sw_len, ← sw_drop, Nat.sub_self] at hD
                              have hjc : (m.length : Int) ≤ (c2 : Int) := by omega
                              clear f1 f2 HX7 HJ hb6 Hsrt Hnx HPx HX5
                              by_cases hcj : c2 = m.length
                              · rw [if_pos hcj, hcj, Nat.sub_self] at hD
                                subst hcj
                                have HD := Lib.hid hD; clear hD
                                go_wp2_with fail
                                go_meet
                                case rel => exact ⟨rel, _, F5, rfl, HXX.out.a, HD.out⟩
                              · rw [if_neg hcj] at hD
                                have HD := Lib.hid hD; clear hD
                                go_wp2_with fail
                                go_meet
                                case rel => exact ⟨rel, _, F5, rfl, HXX.out.a, HD.out⟩
              case rest =>
                clear HB4 HOUT hX4 hH D0 D1 D2 D3 D4
                obtain ⟨now', m', F', rfl, hX⟩ := hcut
                have hsl := hX.s
                obtain ⟨a7, c7, e7, _⟩ := hsl
                rw [sw_len] at e7
                subst e7
                have HX := Lib.hid hX
                have hW := Lib.hid hX.waiting
                clear hX
                go_wp2_with fail
                refine hW.out.mono ?_
                rintro e w6 ⟨rfl, rfl⟩
                go_wp2_with fail
                go_roundw
                case rel => exact ⟨k + 1, now', m', F', by omega, by go_num, rfl, HX.out⟩
                case measure => simp [intOf]; omega
        · have hb := Lib.hid hX.bel
          go_wp2_with fail
          go_ret
          exact ⟨rfl, hb.out⟩
end Go.Proofs.Ythmbbbdnfgefbaa
