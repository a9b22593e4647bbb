/- WALK: WheelModel. -/
import Derived.Test.YthmbbbdnfgefbaaM1
import Derived.IntWalk
namespace Go.Proofs.Ythmbbbdnfgefbaa
open Go.RowKit
set_option linter.unusedVariables false

theorem bel_drew {B : Nat} {w w' : World} (h : Below B w w') : Below B w w'.drew := h.trans ⟨rfl, rfl, rfl, Nat.le_refl _, fun _ _ => rfl⟩

/-- An append onto a row that was made since w0. -/
theorem step_bel {w0 : World} {w : World} {ops : Array Oper} {o : Oper} {a : Act} {K : Act → World → Prop} {Q : Exit → Act → World → Prop} {E : Prop} (hgd : o.guard = none) (s y : Operand)
    (ho : o.op = .call { callee := .builtin .append, args := #[s, y], argTypes := #[28, 28] }) (n m : Nat) (l r : List (Int × Int)) (v x : Value) (hs : a.eval s = v) (hy : a.eval y = x) (hP : Below w0.heap.size w0 w)
    (hown : w.ownsRow w0.heap.size 30 2 v n (l.flatMap dueC)) (hx : Src w x m (r.flatMap dueC)) (hr : r.length = m) (hbnd : n + m ≤ 4096)
    (h : ∀ v' w', w'.ownsRow w0.heap.size 30 2 v' (n + m) ((l ++ r).flatMap dueC) → Below w0.heap.size w0 w' → w.grownBy w' v.ownBlock → K (a.put o.dst v') w') :
    if Region.wanted o (yielded ops a.tmps) = true then Oper.wp Try.prog o a w K Q else E :=
  step_append_due hgd s y ho _ n m l r v x hs hy hown hx hr hbnd hP.size fun v' w' h2 h3 _ => h v' w' h2 (hP.grown h3 hP.size fun k e => ownsRow_block hown k e) h3

theorem bel_alloc {w0 w : World} (h : Below w0.heap.size w0 w) (o : Obj) : Below w0.heap.size w0 (w.alloc o) := h.alloc h.size o
theorem filter_none {m : List (Int × Int)} {id : Int} (h : (m.any fun d => d.2 == id) = false) : (m.filter fun d => !(d.2 == id)) = m :=
  List.filter_eq_self.2 fun d hd => by simpa using List.any_eq_false.1 h d hd

set_option maxHeartbeats 8000000 in
set_option maxRecDepth 100000 in
theorem model_walk (room : Int) (a : Option Addr) (n c : Nat) (l : List (Int × Int × Int)) (w : World) (hl : ActsIn w.heap.size w a n l) (hn : n ≤ 9223372036854775807) :
    Calls Try.prog 3 #[.int .i64 room, .slice a n c] w fun e w' => e = .returned (.bool true) ∧ Below w.heap.size w w' := by
  have hlen := hl.1
  by_cases hbig : 300 < n
  · go_enter Try.func3, Try.ntmps3
    go_wp2_with fail
    refine (awake_any _).mono ?_
    rintro e w1 ⟨rfl, hb1⟩
    go_wp2_with fail
    refine (awake_any _).mono ?_
    rintro e w2 ⟨rfl, hb2⟩
    go_wp2_with fail
    go_ret
    exact ⟨rfl, hb1.trans (hb2.mono hb1.size)⟩
  · have hn3 : n ≤ 300 := by omega
    by_cases hbad : room < 1 ∨ 1024 < room
    · by_cases h1 : room < 1
      · go_enter Try.func3, Try.ntmps3
        go_wp2_with fail
        refine (awake_any _).mono ?_
        rintro e w1 ⟨rfl, hb1⟩
        go_wp2_with fail
        refine (new_bad room _ hbad).mono ?_
        rintro e w2 ⟨rfl, rfl⟩
        go_wp2_with fail
        go_ret
        exact ⟨rfl, hb1⟩
      · have h1' : 1 ≤ room := by omega
        have h2' : 1024 < room := by omega
        go_enter Try.func3, Try.ntmps3
        go_wp2_with fail
        refine (awake_any _).mono ?_
        rintro e w1 ⟨rfl, hb1⟩
        go_wp2_with fail
        refine (new_bad room _ hbad).mono ?_
        rintro e w2 ⟨rfl, rfl⟩
        go_wp2_with fail
        go_ret
        exact ⟨rfl, hb1⟩
    · have h1 : 1 ≤ room := by omega
      have h2 : room ≤ 1024 := by omega
      obtain ⟨R, hR⟩ : ∃ R : Nat, room = (R : Int) := ⟨room.toNat, by omega⟩
      subst hR
      clear hbig hbad
      go_enter Try.func3, Try.ntmps3
      go_wp2_with fail
      refine (awake_any _).mono ?_
      rintro e w1 ⟨rfl, hb1⟩
      go_wp2_with fail
      refine (WO.new (w0 := w) hb1 R (by omega) (by omega)).mono ?_
      rintro e w2 ⟨p, rfl, hW⟩
      go_wp2_with fail
      go_loopw [7, 8, 9] (fun sm st si wr => ∃ (k : Nat) (now : Int) (m : List (Int × Int)) (F : Nat → Prop), k ≤ n ∧ si = .int .i64 k ∧ st = .int .i64 now ∧ WX w wr p R F now m sm m) (fun _ _ si _ => n - (intOf si).toNat)
      case atStart => obtain ⟨⟨F, h1⟩, h2⟩ := hW; exact ⟨0, 0, [], F, Nat.zero_le _, rfl, rfl, h1, Sl.nil _ _, h2⟩
      case round =>
        clear hb1 hW
        obtain ⟨k, now, m, F, hk, rfl, rfl, hX⟩ := hrel
        by_cases hlt : k < n
        · obtain ⟨b, off, rfl, hbB, hcc⟩ := (hl.keep hX.bel).2 (by omega)
          obtain ⟨A0, A1, A2⟩ := hcc k (by omega)
          generalize l[k].1 = do_ at *
          generalize l[k].2.1 = t at *
          generalize l[k].2.2 = id at *
          have HL := Lib.hid hl
          have hkI : (k : Int) < (n : Int) := by omega
          clear hcc hl
          have hbl : b < wr.heap.size := by have := hX.bel.size; omega
          go_wp2_with fail
          obtain ⟨a2, c2, rfl, hP, hH, hab⟩ := hX.s
          have hX3 : WX w (wr.alloc (.cells #[.int .i64 t, .int .i64 id] 30)) p R F now m (.slice a2 m.length c2) m := hX.below ((Below.refl _ _).alloc (Nat.le_refl _) _)
          have hB3 : Bx (wr.alloc (.cells #[.int .i64 t, .int .i64 id] 30)) F wr.heap.size (t, id) := ⟨by simp, fun hF => by have := (hX.a.flt _ hF).1; omega, cell_newb _ _ _ _ 0 _ rfl rfl, cell_newb _ _ _ _ 1 _ rfl rfl⟩
          have hP3 : PairsIn (wr.alloc (.cells #[.int .i64 t, .int .i64 id] 30)).heap.size (wr.alloc (.cells #[.int .i64 t, .int .i64 id] 30)) a2 m.length m := by
            obtain ⟨a3, c3, e3, h3, _⟩ := hX3.s
            simp only [Value.slice.injEq] at e3
            obtain ⟨rfl, _, rfl⟩ := e3
            exact h3
          have hlen2 := hX.a.len
          have A03 : (wr.alloc (.cells #[.int .i64 t, .int .i64 id] 30)).cell? ⟨b, off + k * 3, none⟩ = some (.int .i64 do_) := by rw [World.cell?_alloc_lt _ _ _ hbl]; exact A0
          have hsz3 : wr.heap.size < (wr.alloc (.cells #[.int .i64 t, .int .i64 id] 30)).heap.size := by simp
          have hX' := Lib.hid hX
          clear hX hP
          generalize wr.alloc (.cells #[.int .i64 t, .int .i64 id] 30) = w3 at *
          obtain ⟨bx, hbx⟩ : ∃ bx, wr.heap.size = bx := ⟨_, rfl⟩
          rw [hbx] at hB3 hbl hsz3 ⊢
          have Hbx := Lib.hid hbx
          clear hbx A0 A1 A2
          go_loopw [11, 12] (fun sk sj wi => ∃ (j : Nat) (kk : Int), j ≤ m.length ∧ sj = .int .i64 j ∧ sk = .int .i64 kk ∧ Hid (KIdx m id j kk) ∧ Below w3.heap.size w3 wi) (fun _ sj _ => m.length - (intOf sj).toNat)
          case atStart => exact ⟨0, -1, Nat.zero_le _, rfl, rfl, KIdx.zero _ _, Below.refl _ _⟩
          case round =>
            obtain ⟨j, kk, hj, rfl, rfl, HK, hb4⟩ := hrel
            have d1 : wr.cell? ⟨bx, 1, none⟩ = some (.int .i64 id) := by rw [hb4.cell (p := ⟨bx, 1, none⟩) hsz3]; exact hB3.c1
            by_cases hjl : j < m.length
            · obtain ⟨b4, o4, rfl, hb4B, hcc⟩ := (hP3.keep hb4).2 (by omega)
              have hcell := (hcc j hjl).2
              have hjI : (j : Int) < (m.length : Int) := by omega
              have HKy : Hid (m[j].2 = id → KIdx m id (j + 1) (j : Int)) := fun e => KIdx.yes (k := kk) hjl e
              have HKn : Hid (m[j].2 ≠ id → KIdx m id (j + 1) kk) := fun e => HK.out.no hjl e
              generalize m[j].2 = di at *
              have HP3 := Lib.hid hP3
              clear hcc HK hP3
              by_cases he : di = id
              · have HKy' := Lib.hid (HKy.out he)
                subst he
                clear HKy HKn
                go_wp2_with fail
                go_quiet (fail)
                go_wp2_with fail
                go_roundw
                case rel => exact ⟨j + 1, (j : Int), by omega, by go_num, rfl, HKy'.out, hb4.trans ⟨rfl, rfl, rfl, Nat.le_refl _, fun _ _ => rfl⟩⟩
                case measure => simp [intOf]; omega
              · have HKn' := Lib.hid (HKn.out he)
                have heb : (di == id) = false := by simpa using he
                clear HKy HKn he
                go_wp2_with fail
                go_quiet (fail)
                go_wp2_with fail
                go_roundw
                case rel => exact ⟨j + 1, kk, by omega, by go_num, rfl, HKn'.out, hb4.trans ⟨rfl, rfl, rfl, Nat.le_refl _, fun _ _ => rfl⟩⟩
                case measure => simp [intOf]; omega
            · obtain rfl : j = m.length := by omega
              have A04 : wr.cell? ⟨b, off + k * 3, none⟩ = some (.int .i64 do_) := by rw [hb4.cell (p := ⟨b, off + k * 3, none⟩) (by have := hsz3; show b < _; omega)]; exact A03
              have hX4 := Lib.hid (hX3.below hb4)
              have hB4 := hB3.below hb4
              have hmin := hX3.a.now0
              have HOUT := Lib.hid HK.out.out
              clear hX3 hB3 hP3 A03 hb4 d1 HK
              go_upto_if 81 with fail
              clear Hbx hX' hbl
              go_cut [7, 8] (fun s7 s8 wx => ∃ (now' : Int) (m' : List (Int × Int)) (F' : Nat → Prop), s8 = .int .i64 now' ∧ WX w wx p R F' now' m' s7 m')
              case first =>
                have D0 := hB4.c0
                have D1 := hB4.c1
                simp only at D0 D1
                by_cases hd0 : do_ = 0
                · subst hd0
                  by_cases hb1 : t < now
                  · as_aux_lemma =>
                    have hA := Lib.hid (hX4.out.add (show addM now R m (t, id) = (1, m) by unfold addM; rw [if_pos (by simp; omega)]))
                    clear HOUT
                    go_wp2_with fail
                    refine hA.out.mono ?_
                    rintro e w5 ⟨rfl, F5, hX5⟩
                    go_wp2_with fail
                    go_meet
                    case rel => exact ⟨now, m, F5, rfl, hX5⟩
                  · have hb1' : now ≤ t := by omega
                    by_cases hb2 : 1099511627776 < t
                    · as_aux_lemma =>
                      have hA := Lib.hid (hX4.out.add (show addM now R m (t, id) = (1, m) by unfold addM; rw [if_pos (by simp; omega)]))
                      clear HOUT hb1
                      go_wp2_with fail
                      refine hA.out.mono ?_
                      rintro e w5 ⟨rfl, F5, hX5⟩
                      go_wp2_with fail
                      go_meet
                      case rel => exact ⟨now, m, F5, rfl, hX5⟩
                    · have hb2' : t ≤ 1099511627776 := by omega
                      rcases HOUT.out with ⟨rfl, hany⟩ | ⟨q, hq, rfl, hid, hany⟩
                      · by_cases hfull : m.length = R
                        · as_aux_lemma =>
                          have hA := Lib.hid (hX4.out.add (show addM now R m (t, id) = (3, m) by unfold addM; rw [if_neg (by simp; omega), if_neg (by simp [hany]), if_pos (by omega)]))
                          have hfb : ((m.length : Int) == (R : Int)) = true := by simp; omega
                          clear HOUT hb1 hb2 hany hfull
                          go_wp2_with fail
                          refine hA.out.mono ?_
                          rintro e w5 ⟨rfl, F5, hX5⟩
                          go_wp2_with fail
                          go_meet
                          case rel => exact ⟨now, m, F5, rfl, hX5⟩
                        · as_aux_lemma =>
                          have hE := Lib.hid (show addM now R m (t, id) = (0, ins (t, id) m) by unfold addM; rw [if_neg (by simp; omega), if_neg (by simp [hany]), if_neg (by omega)])
                          have hfb : ((m.length : Int) == (R : Int)) = false := by simp; omega
                          have hPt := Lib.hid (hX4.out.put (t := t) (id := id) rfl (by omega))
                          clear HOUT hb1 hb2 hany hfull
                          go_wp2_with fail
                          refine hPt.out.mono ?_
                          rintro e w5 ⟨v5, rfl, hX5, hb5⟩
                          have hB5 := hB4.below hb5
                          have D05 := hB5.c0
                          have D15 := hB5.c1
                          simp only at D05 D15
                          have hA := Lib.hid (hX5.add hE.out)
                          clear hX5 hB5 hB4 hb5
                          go_wp2_with fail
                          refine hA.out.mono ?_
                          rintro e w6 ⟨rfl, F6, hX6⟩
                          go_wp2_with fail
                          go_meet
                          case rel => exact ⟨now, _, F6, rfl, hX6⟩
                      · as_aux_lemma =>
                        have hA := Lib.hid (hX4.out.add (show addM now R m (t, id) = (7, m) by unfold addM; rw [if_neg (by simp; omega), if_pos (by simpa using hany)]))
                        have hq0 : (0 : Int) ≤ (q : Int) := by omega
                        clear HOUT hb1 hb2 hany hid
                        go_wp2_with fail
                        refine hA.out.mono ?_
                        rintro e w5 ⟨rfl, F5, hX5⟩
                        go_wp2_with fail
                        go_meet
                        case rel => exact ⟨now, m, F5, rfl, hX5⟩
                · have hd0b : (do_ == 0) = false := by simpa using hd0
                  by_cases hd1 : do_ = 1
                  · subst hd1
                    clear hd0 hd0b
                    rcases HOUT.out with ⟨rfl, hany⟩ | ⟨q, hq, rfl, hid, hany⟩
                    · as_aux_lemma =>
                      have hC := hX4.out.cancel id
                      rw [hany, filter_none hany] at hC
                      have HC := Lib.hid hC
                      clear HOUT hany hC
                      go_wp2_with fail
                      refine HC.out.mono ?_
                      rintro e w5 ⟨rfl, F5, hX5⟩
                      go_wp2_with fail
                      go_meet
                      case rel => exact ⟨now, m, F5, rfl, hX5⟩
                    · have hC := hX4.out.cancel id
                      rw [hany, ← hid, filter_one hX4.out.a.ids q hq] at hC
                      rw [hid] at hC
                      have HC := Lib.hid hC
                      have hq0 : (0 : Int) ≤ (q : Int) := by omega
                      rcases hH with ⟨_, h0, _⟩ | ⟨b4, o4, rfl, hmc, hc9⟩
                      · omega
                      · as_aux_lemma =>
                        clear HOUT hany hC hid
                        go_wp2_with fail
                        refine HC.out.mono ?_
                        rintro e w5 ⟨rfl, F5, hX5⟩
                        go_wp2_with fail
                        have hP5 : PairsIn w5.heap.size w5 (some ⟨b4, o4, none⟩) m.length m := by
                          obtain ⟨a3, c3, e3, h3, _⟩ := hX5.s
                          simp only [Value.slice.injEq] at e3
                          obtain ⟨rfl, _, rfl⟩ := e3
                          exact h3
                        have HX5 := Lib.hid hX5
                        obtain ⟨L1, hL1⟩ : ∃ L, L = m.take q := ⟨_, rfl⟩
                        obtain ⟨L3, hL3⟩ : ∃ L, L = m.drop (q + 1) := ⟨_, rfl⟩
                        have HS1 : Hid (∀ W, Below w5.heap.size w5 W → Src W (.slice (some ⟨b4, o4, none⟩) q c2) q (L1.flatMap dueC)) := fun W hW => by rw [hL1]; exact src_take hP5 hW (by omega)
                        have HS3 : Hid (∀ W, Below w5.heap.size w5 W → Src W (.slice (if c2 = q + 1 then some ⟨b4, o4, none⟩ else some ⟨b4, o4 + (q + 1) * 2, none⟩) (m.length - (q + 1)) (c2 - (q + 1))) (m.length - (q + 1)) (L3.flatMap dueC)) := fun W hW => by rw [hL3]; exact src_drop hP5 hW (by omega) hmc
                        have Htk : Hid (L1.length = q) := by show _ = _; rw [hL1, List.length_take]; omega
                        have Hdk : Hid (L3.length = m.length - (q + 1)) := by show _ = _; rw [hL3, List.length_drop]
                        have HL : Hid (L1 ++ L3 = m.take q ++ m.drop (q + 1)) := by show _ = _; rw [hL1, hL3]
                        have hP : Below w5.heap.size w5 w5 := Below.refl _ _
                        have k1 : (0 : Int) ≤ (q : Int) + 1 := by omega
                        have k2 : (q : Int) ≤ (c2 : Int) := by omega
                        have k3 : (q : Int) + 1 ≤ (m.length : Int) := by omega
                        have k4 : (m.length : Int) ≤ (c2 : Int) := by omega
                        have k5 : (q : Int) ≤ (m.length : Int) := by omega
                        have hbk : 0 + q ≤ 4096 := by omega
                        have hbk2 : 0 + q + (m.length - (q + 1)) ≤ 4096 := by omega
                        have k6 : IntKind.i64.wrap ((q : Int) + 1) = (q : Int) + 1 := IntWalk.i64_in _ (by omega)
                        have k7 : ((q : Int) + 1).toNat = q + 1 := by omega
                        clear hL1 hL3 hX5 hP5 D0 D1 A04 hB4 HC
                        go_region_held3 (fun w' => Below w5.heap.size w5 w') ((focus repeat (first | (with_reducible assumption) | (with_reducible refine bel_alloc ?_ _) | (with_reducible refine bel_drew ?_))))
                          (first | ((refine step_bel (w0 := w5) ?_ (.tmp 120) (.tmp 123) ?_ 0 q [] L1 (Value.slice (some ⟨w5.heap.size, 0, none⟩) 0 0) (Value.slice (some ⟨b4, o4, none⟩) q c2) ?_ ?_ ?_ ?_ ?_ Htk.out hbk ?_; rfl; rfl; rfl; rfl; (focus repeat (first | (with_reducible assumption) | (with_reducible refine bel_alloc ?_ _) | (with_reducible refine bel_drew ?_))); (focus repeat (first | (with_reducible assumption) | ((with_reducible refine own_lit _ _ _ ?_ ?_); (first | rfl | (simp; done)); (first | omega | (simp; omega))) | (with_reducible refine World.ownsRow.drew ?_))); (refine HS1.out _ ?_; (focus repeat (first | (with_reducible assumption) | (with_reducible refine bel_alloc ?_ _) | (with_reducible refine bel_drew ?_)))); intro v1 w1 hown1 hP1 hgrow1)) | ((refine step_bel (w0 := w5) ?_ (.tmp 124) (.tmp 128) ?_ (0 + q) (m.length - (q + 1)) ([] ++ L1) L3 v1 (Value.slice (if c2 = q + 1 then some ⟨b4, o4, none⟩ else some ⟨b4, o4 + (q + 1) * 2, none⟩) (m.length - (q + 1)) (c2 - (q + 1))) ?_ ?_ ?_ ?_ ?_ Hdk.out hbk2 ?_; rfl; rfl; rfl; rfl; (with_reducible assumption); (with_reducible assumption); (refine HS3.out _ ?_; (with_reducible assumption)); intro v2 w2 hown2 hP2 hgrow2)))
                        all_goals go_wp2_with fail
                        all_goals
                          go_meet
                          case rel =>
                            refine ⟨now, _, F5, rfl, HX5.out.own hP2 ?_ (by rw [← HL.out]; simpa using hown2) ?_⟩
                            · rw [← HL.out, List.length_append, Htk.out, Hdk.out]
                            · rw [← HL.out, List.length_append, Htk.out, Hdk.out]; omega
                  · have hd1b : (do_ == 1) = false := by simpa using hd1
                    clear hd0 hd1 HOUT
                    by_cases hb1 : t < now
                    · as_aux_lemma =>
                      have hA := Lib.hid (hX4.out.adv_bad t (by omega))
                      go_wp2_with fail
                      refine hA.out.mono ?_
                      rintro e w5 ⟨rfl, hX5, hb5⟩
                      have hB5 := hB4.below hb5
                      have D05 := hB5.c0
                      simp only at D05
                      go_wp2_with fail
                      go_meet
                      case rel => exact ⟨now, m, F, rfl, hX5⟩
                    · have hb1' : now ≤ t := by omega
                      by_cases hb2 : 1099511627776 < t
                      · as_aux_lemma =>
                        have hA := Lib.hid (hX4.out.adv_bad t (by omega))
                        clear hb1
                        go_wp2_with fail
                        refine hA.out.mono ?_
                        rintro e w5 ⟨rfl, hX5, hb5⟩
                        have hB5 := hB4.below hb5
                        have D05 := hB5.c0
                        simp only at D05
                        go_wp2_with fail
                        go_meet
                        case rel => exact ⟨now, m, F, rfl, hX5⟩
                      · as_aux_lemma =>
                        have hb2' : t ≤ 1099511627776 := by omega
                        have hA := Lib.hid (hX4.out.adv t hb1' hb2')
                        have Hsrt := Lib.hid hX4.out.a.srt
                        clear hb1 hb2
                        go_wp2_with fail
                        refine hA.out.mono ?_
                        rintro e w5 ⟨a5, c5, F5, rfl, hPx, hX5, hF5, hf5⟩
                        have hB5 := hB4.turn hF5 hf5
                        have D05 := hB5.c0
                        have E05 := hB5.lt
                        simp only at D05
                        have HPx := Lib.hid hPx
                        have HX5 := Lib.hid hX5
                        have hPm : PairsIn w5.heap.size w5 a2 m.length m := by
                          obtain ⟨a3, c3, e3, h3, _⟩ := hX5.s
                          simp only [Value.slice.injEq] at e3
                          obtain ⟨rfl, _, rfl⟩ := e3
                          exact h3
                        obtain ⟨nx, hnx⟩ : ∃ nx, (m.filter fun d => decide (d.1 ≤ t)).length = nx := ⟨_, rfl⟩
                        rw [hnx] at HPx ⊢
                        have Hnx := Lib.hid hnx
                        clear hnx hPx hX5 hf5 hF5 hB5 hB4 A04 D0 D1 hA hX4
                        go_wp2_with fail
                        rcases hH with ⟨rfl, hm0, rfl⟩ | ⟨b4, o4, rfl, hmc, hc9⟩
                        · as_aux_lemma =>
                          obtain rfl : m = [] := List.eq_nil_of_length_eq_zero hm0
                          obtain rfl : nx = 0 := Hnx.out.symm
                          go_loopw [16] (fun sj wr => sj = .int .i64 0 ∧ Below w5.heap.size w5 wr) (fun sj _ => 0)
                          case atStart => exact ⟨rfl, Below.refl _ _⟩
                          case round =>
                            obtain ⟨rfl, hb6⟩ := hrel
                            have d6 : wr.cell? ⟨bx, 0, none⟩ = some (.int .i64 t) := by rw [hb6.cell (p := ⟨bx, 0, none⟩) E05]; exact D05
                            have HB6 := Lib.hid hb6
                            go_wp2_with fail
                            go_quiet (fail)
                            go_wp2_with fail
                            generalize hw7 : World.drewN wr _ = w7
                            have hb7 : Below w5.heap.size w5 w7 := by rw [← hw7]; exact HB6.out.trans ⟨rfl, rfl, rfl, Nat.le_refl _, fun _ _ => rfl⟩
                            have HB7 := Lib.hid hb7
                            clear hw7 hb7 HB6 hb6 d6
                            refine (same_any w5.heap.size a5 none 0 c5 0 [] w7 (PairsIn.keep HPx.out HB7.out) ⟨rfl, fun h => by omega⟩ HB7.out.size (by omega)).mono ?_
                            rintro e w8 ⟨rfl, hb8⟩
                            have hb58 : Below w5.heap.size w5 w8 := HB7.out.trans (hb8.mono HB7.out.size)
                            have d8 : w8.cell? ⟨bx, 0, none⟩ = some (.int .i64 t) := by rw [hb58.cell (p := ⟨bx, 0, none⟩) E05]; exact D05
                            go_wp2_with fail
                            go_meet
                            case rel => exact ⟨t, _, F5, rfl, HX5.out.below hb58⟩
                        · as_aux_lemma =>
                          go_loopw [16] (fun sj wr => ∃ j : Nat, j ≤ m.length ∧ sj = .int .i64 j ∧ Hid (∀ q (h : q < m.length), q < j → m[q].1 ≤ t) ∧ Below w5.heap.size w5 wr) (fun sj _ => m.length - (intOf sj).toNat)
                          case atStart => exact ⟨0, Nat.zero_le _, rfl, fun q h hq => by omega, Below.refl _ _⟩
                          case round =>
                            obtain ⟨j, hj, rfl, HJ, hb6⟩ := hrel
                            have d6 : wr.cell? ⟨bx, 0, none⟩ = some (.int .i64 t) := by rw [hb6.cell (p := ⟨bx, 0, none⟩) E05]; exact D05
                            go_upto_region 41 with fail
                            go_cut [166] (fun s wx => ∃ bb : Bool, s = .bool bb ∧ Hid (bb = true ↔ ∃ h : j < m.length, m[j].1 ≤ t) ∧ Below w5.heap.size w5 wx)
                            case first =>
                              by_cases hjl : j < m.length
                              · obtain ⟨b6, o6, e6, hb6B, hcc⟩ := (hPm.keep hb6).2 (by omega)
                                simp only [Option.some.injEq, Addr.mk.injEq] at e6
                                obtain ⟨rfl, rfl, _⟩ := e6
                                have hcell := (hcc j hjl).1
                                have hjI : (j : Int) < (m.length : Int) := by omega
                                have HB : Hid (∀ bb : Bool, (bb = true ↔ m[j].1 ≤ t) → (bb = true ↔ ∃ h : j < m.length, m[j].1 ≤ t)) := fun bb h => ⟨fun hb => ⟨hjl, h.1 hb⟩, fun ⟨_, hb⟩ => h.2 hb⟩
                                generalize m[j].1 = tj at *
                                have HPm := Lib.hid hPm
                                have HB6 := Lib.hid hb6
                                clear hcc HJ hPm hb6
                                by_cases hle : tj ≤ t
                                · go_wp2_with fail
                                  go_quiet (fail)
                                  go_wp2_with fail
                                  go_meet
                                  case rel => exact ⟨true, (by first | rfl | simp [hle]), HB.out _ (by simp [hle]), HB6.out.trans ⟨rfl, rfl, rfl, Nat.le_refl _, fun _ _ => rfl⟩⟩
                                · have hle' : t < tj := by omega
                                  go_wp2_with fail
                                  go_quiet (fail)
                                  go_wp2_with fail
                                  go_meet
                                  case rel => exact ⟨false, (by first | rfl | simp [hle]), HB.out _ (by simp [hle]), HB6.out.trans ⟨rfl, rfl, rfl, Nat.le_refl _, fun _ _ => rfl⟩⟩
                              · obtain rfl : j = m.length := by omega
                                have HB6 := Lib.hid hb6
                                clear HJ hb6
                                go_wp2_with fail
                                go_quiet (fail)
                                go_wp2_with fail
                                go_meet
                                case rel => exact ⟨false, rfl, ⟨fun h => by simp at h, fun ⟨h, _⟩ => by omega⟩, HB6.out.trans ⟨rfl, rfl, rfl, Nat.le_refl _, fun _ _ => rfl⟩⟩
                            case rest =>
                              clear d6 hb6
                              obtain ⟨bb, rfl, Hbb, hb7⟩ := hcut
                              cases bb
                              rotate_left
                              · obtain ⟨hjl, hle⟩ := Hbb.out.1 rfl
                                have HJ2 : Hid (∀ q (h : q < m.length), q < j + 1 → m[q].1 ≤ t) := by
                                  intro q h hq
                                  rcases Nat.lt_or_ge q j with hqj | hqj
                                  · exact HJ.out q h hqj
                                  · obtain rfl : q = j := by omega
                                    exact hle
                                clear hle HJ Hbb
                                go_wp2_with fail
                                go_roundw
                                case rel => exact ⟨j + 1, by omega, by go_num, HJ2, hb7⟩
                                case measure => simp [intOf]; omega
                              · obtain ⟨f1, f2⟩ := due_take Hsrt.out t j hj HJ.out (fun h => by
                                  rcases Int.lt_or_le t m[j].1 with h' | h'
                                  · exact h'
                                  · have := Hbb.out.2 ⟨h, h'⟩; simp at this)
                                have hlj : (m.take j).length = j := by rw [List.length_take]; omega
                                obtain rfl : nx = j := by rw [← Hnx.out, f1, hlj]
                                have HX7 := HX5.out.below hb7
                                rw [f2] at HX7
                                have HPx7 := HPx.out.keep hb7
                                rw [f1] at HPx7
                                have HPt := Lib.hid ((hPm.take nx hj).keep hb7)
                                have HPX := Lib.hid HPx7
                                have HXX := Lib.hid HX7
                                have HB7 := Lib.hid hb7
                                have E07 : bx < wc.heap.size := Nat.lt_of_lt_of_le E05 hb7.size
                                have d7 : wc.cell? ⟨bx, 0, none⟩ = some (.int .i64 t) := by rw [hb7.cell (p := ⟨bx, 0, none⟩) E05]; exact D05
                                have hjc : (nx : Int) ≤ (c2 : Int) := by omega
                                have hjm : (nx : Int) ≤ (m.length : Int) := by omega
                                have hj0 : (0 : Int) ≤ (nx : Int) := by omega
                                have hmcI : (m.length : Int) ≤ (c2 : Int) := by omega
                                clear f1 f2 hlj HX7 HPx7 HJ Hbb hb7 hPm Hsrt Hnx HPx HX5 D05
                                go_wp2_with fail
                                refine (same_any w5.heap.size a5 (some ⟨b4, o4, none⟩) nx c5 c2 (m.take nx) wc HPX.out HPt.out HB7.out.size (by omega)).mono ?_
                                rintro e w8 ⟨rfl, hb8⟩
                                have d8 : w8.cell? ⟨bx, 0, none⟩ = some (.int .i64 t) := by rw [hb8.cell (p := ⟨bx, 0, none⟩) E07]; exact d7
                                have hX8 := Lib.hid (HXX.out.below hb8)
                                clear HXX HPX HPt HB7 d7
                                have hD := Sl.drop hX8.out.s nx hj
                                by_cases hcj : c2 = nx
                                · subst hcj
                                  have hz : m.length - c2 = 0 := by omega
                                  rw [if_pos rfl, Nat.sub_self, hz] at hD
                                  clear hz
                                  have HD := Lib.hid hD; clear hD
                                  go_wp2_with fail
                                  go_meet
                                  case rel => exact ⟨t, _, F5, rfl, hX8.out.a, HD.out, hX8.out.bel⟩
                                · rw [if_neg hcj] at hD
                                  have HD := Lib.hid hD; clear hD
                                  go_wp2_with fail
                                  go_meet
                                  case rel => exact ⟨t, _, F5, rfl, hX8.out.a, HD.out, hX8.out.bel⟩
              case rest =>
                clear A04 hB4 HOUT hX4 hH
                obtain ⟨now', m', F', rfl, hX⟩ := hcut
                obtain ⟨a7, c7, rfl, hP7, hH7, _⟩ := hX.s
                have HX := Lib.hid hX
                clear hX
                cases m' with
                | nil =>
                  as_aux_lemma =>
                  have hN := Lib.hid HX.out.next
                  clear hP7
                  go_wp2_with fail
                  refine hN.out.mono ?_
                  rintro e w5 ⟨rfl, hX5⟩
                  have hW := Lib.hid hX5.now_
                  have hL := Lib.hid hX5.len_
                  have HX5 := Lib.hid hX5
                  clear hX5
                  go_wp2_with fail
                  refine hW.out.mono ?_
                  rintro e w6 ⟨rfl, rfl⟩
                  go_wp2_with fail
                  refine hL.out.mono ?_
                  rintro e w6 ⟨rfl, rfl⟩
                  go_wp2_with fail
                  go_roundw
                  case rel => exact ⟨k + 1, now', [], F', by omega, by go_num, rfl, HX5.out⟩
                  case measure => simp [intOf]; omega
                | cons d ms =>
                  as_aux_lemma =>
                  have hN := Lib.hid HX.out.next
                  obtain ⟨b7, o7, rfl, _, _⟩ := hP7.2 (by simp)
                  clear hP7 hH7
                  have hlp2 : (0 : Int) < (ms.length : Int) + 1 := by omega
                  go_wp2_with fail
                  refine hN.out.mono ?_
                  rintro e w5 ⟨rfl, hX5⟩
                  have hc5 : w5.cell? ⟨b7, o7, none⟩ = some (.int .i64 d.1) := by
                    obtain ⟨a3, c3, e3, h3, _⟩ := hX5.s
                    simp only [Value.slice.injEq] at e3
                    obtain ⟨rfl, _, rfl⟩ := e3
                    obtain ⟨b8, o8, e8, _, hc⟩ := h3.2 (by simp)
                    simp only [Option.some.injEq, Addr.mk.injEq] at e8
                    obtain ⟨rfl, rfl, _⟩ := e8
                    have := (hc 0 (by simp)).1
                    rw [Nat.zero_mul, Nat.add_zero] at this
                    exact this
                  have hW := Lib.hid hX5.now_
                  have hL := Lib.hid hX5.len_
                  have HX5 := Lib.hid hX5
                  clear hX5
                  go_wp2_with fail
                  refine hW.out.mono ?_
                  rintro e w6 ⟨rfl, rfl⟩
                  go_wp2_with fail
                  refine hL.out.mono ?_
                  rintro e w6 ⟨rfl, rfl⟩
                  go_wp2_with fail
                  go_roundw
                  case rel => exact ⟨k + 1, now', d :: ms, F', by omega, by go_num, rfl, HX5.out⟩
                  case measure => simp [intOf]; omega
        · go_wp2_with fail
          go_ret
          exact ⟨rfl, hX.bel⟩
end Go.Proofs.Ythmbbbdnfgefbaa
