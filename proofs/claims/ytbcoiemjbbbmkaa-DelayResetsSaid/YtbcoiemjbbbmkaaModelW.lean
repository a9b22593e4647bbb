/- WALK: DelayModel. -/
import Derived.Test.YtbcoiemjbbbmkaaW4
import Derived.Test.YtbcoiemjbbbmkaaLift
import Derived.Deep.DeepCutAuto
import Derived.Deep.QuietTactic
import Derived.BigQuiet
namespace Go.Proofs.Ytbcoiemjbbbmkaa
open Go.RowKit
set_option linter.unusedVariables false

theorem Try.info3 : (Try.prog.info? 3).map (fun i => (i.zero, i.size, i.bytes)) = some (some (.int .i64 0), 1, 8) := by kernel_rfl

/-- A block of the law's own that holds numbers. -/
structure IntsBlk (w : World) (b : Nat) (xs : List Int) : Prop where
  cell : ∀ i (h : i < xs.length), w.cell? ⟨b, i, none⟩ = some (.int .i64 xs[i])
  fz : ∀ o, w.frozen? ⟨b, o, none⟩ = false
  lt : b < w.heap.size

theorem IntsBlk.keep {S : Nat → Prop} {w w' : World} {b : Nat} {xs : List Int} (h : IntsBlk w b xs) (hf : Fr S w w') (hb : ¬ S b) : IntsBlk w' b xs :=
  ⟨fun i hi => by rw [hf.cell (p := ⟨b, i, none⟩) h.lt hb]; exact h.cell i hi, fun o => by rw [hf.frozen (p := ⟨b, o, none⟩) h.lt hb]; exact h.fz o, Nat.lt_of_lt_of_le h.lt hf.size⟩

theorem IntsBlk.put {w : World} {b : Nat} {xs : List Int} (h : IntsBlk w b xs) (k : Nat) (hk : k < xs.length) (v : Int) : IntsBlk (w.setCell ⟨b, k, none⟩ (.int .i64 v)) b (xs.set k v) := by
  refine ⟨fun i hi => ?_, fun o => by rw [World.frozen?_setCell]; exact h.fz o, by simpa [World.setCell] using h.lt⟩
  have hi' : i < xs.length := by simpa using hi
  rw [List.getElem_set]
  split
  · rename_i e; subst e; exact World.cell?_setCell_same _ _ _ (h.cell k hk)
  · rename_i e; rw [World.cell?_setCell_other _ _ _ _ (fun e' => e (by cases e'; rfl))]; exact h.cell i hi'

theorem IntsBlk.of_own {w : World} {base e b n : Nat} {xs : List Int} (h : w.ownsRow base e 1 (.slice (some ⟨b, 0, none⟩) n n) n (xs.map (.int .i64))) (hn : 0 < n) : IntsBlk w b xs := by
  obtain ⟨g, cap, hv, _, hg, _, hc, hf⟩ := ownsRow_cells h hn
  simp at hv
  obtain ⟨rfl, _⟩ := hv
  exact ⟨fun i hi => hc i _ (by simp [hi]), hf, hg⟩

theorem made_zeros (n : Nat) : (madeCells #[Value.int IntKind.i64 0] n).toList = (List.replicate n (0 : Int)).map (.int .i64) := by
  apply List.ext_getElem
  · simp [madeCells]
  · intro i h1 h2
    have : i % 1 = 0 := Nat.mod_one i
    simp [madeCells, this]

structure StM (w0 w : World) (p q cap bo bc N : Nat) (gs : List Gate) : Prop where
  g : GuardAt w p q cap N gs
  o : IntsBlk w bo (gs.map (·.opn))
  c : IntsBlk w bc (gs.map (·.count))
  bel : Below w0.heap.size w0 w
  ne : bo ≠ p ∧ bo ≠ q ∧ bc ≠ p ∧ bc ≠ q ∧ bo ≠ bc
  lo : w0.heap.size ≤ p ∧ w0.heap.size ≤ q ∧ w0.heap.size ≤ bo ∧ w0.heap.size ≤ bc

theorem cell_new0 (w : World) (cs : Array Value) (T : TypeId) (j : Nat) (u : Value) (h : cs.toList[j]? = some u) : (w.alloc (.cells cs T)).cell? ⟨w.heap.size, j, none⟩ = some u := by
  have := cell_new w cs T j u h
  rwa [add_none, Nat.zero_add] at this

theorem StM.drewN {w0 w : World} {p q cap bo bc N : Nat} {gs : List Gate} (h : StM w0 w p q cap bo bc N gs) (n : Nat) : StM w0 (w.drewN n) p q cap bo bc N gs :=
  ⟨⟨h.g.fld, h.g.ffld, h.g.len, h.g.capl, h.g.ap, h.g.opn, h.g.ct, h.g.fr, h.g.ne, h.g.p1, h.g.q1, h.g.rng⟩, ⟨h.o.cell, h.o.fz, h.o.lt⟩, ⟨h.c.cell, h.c.fz, h.c.lt⟩, ⟨h.bel.os, h.bel.tape, h.bel.output, h.bel.size, h.bel.block⟩, h.ne, h.lo⟩

structure StC (w0 w : World) (p q cap bo bc N ba : Nat) (gs gs' : List Gate) (g t : Int) : Prop where
  gd : GuardAt w p q cap N gs
  o : IntsBlk w bo (gs'.map (·.opn))
  c : IntsBlk w bc (gs'.map (·.count))
  bel : Below w0.heap.size w0 w
  ne : bo ≠ p ∧ bo ≠ q ∧ bc ≠ p ∧ bc ≠ q ∧ bo ≠ bc ∧ ba ≠ p ∧ ba ≠ q ∧ ba ≠ bo ∧ ba ≠ bc
  lo : w0.heap.size ≤ p ∧ w0.heap.size ≤ q ∧ w0.heap.size ≤ bo ∧ w0.heap.size ≤ bc ∧ w0.heap.size ≤ ba
  a0 : w.cell? ⟨ba, 0, none⟩ = some (.int .i64 g)
  a1 : w.cell? ⟨ba, 1, none⟩ = some (.int .i64 t)
  al : ba < w.heap.size

theorem StM.ask {w0 w : World} {p q cap bo bc N : Nat} {gs : List Gate} (h : StM w0 w p q cap bo bc N gs) (g t : Int) (T : TypeId) :
    StC w0 (w.alloc (.cells #[.int .i64 g, .int .i64 t] T)) p q cap bo bc N w.heap.size gs gs g t := by
  have f : Fr (fun _ => False) w (w.alloc (.cells #[.int .i64 g, .int .i64 t] T)) := (Fr.refl _ _).alloc _
  have hp := h.g.p1
  have hq := h.g.q1
  have ho := h.o.lt
  have hc := h.c.lt
  have hn := h.ne
  have hl := h.lo
  have hs := h.bel.size
  exact ⟨h.g.keep f (by simp) (by simp), h.o.keep f (by simp), h.c.keep f (by simp), h.bel.alloc hs _, by omega, by omega, cell_new0 _ _ _ 0 _ rfl, cell_new0 _ _ _ 1 _ rfl, by simp⟩

theorem StC.drew {w0 w : World} {p q cap bo bc N ba : Nat} {gs gs' : List Gate} {g t : Int} (h : StC w0 w p q cap bo bc N ba gs gs' g t) : StC w0 w.drew p q cap bo bc N ba gs gs' g t :=
  ⟨h.gd.drew, ⟨h.o.cell, h.o.fz, h.o.lt⟩, ⟨h.c.cell, h.c.fz, h.c.lt⟩, h.bel.drew, h.ne, h.lo, h.a0, h.a1, h.al⟩
theorem StC.drewN {w0 w : World} {p q cap bo bc N ba : Nat} {gs gs' : List Gate} {g t : Int} (h : StC w0 w p q cap bo bc N ba gs gs' g t) (n : Nat) : StC w0 (w.drewN n) p q cap bo bc N ba gs gs' g t :=
  ⟨⟨h.gd.fld, h.gd.ffld, h.gd.len, h.gd.capl, h.gd.ap, h.gd.opn, h.gd.ct, h.gd.fr, h.gd.ne, h.gd.p1, h.gd.q1, h.gd.rng⟩, ⟨h.o.cell, h.o.fz, h.o.lt⟩, ⟨h.c.cell, h.c.fz, h.c.lt⟩, ⟨h.bel.os, h.bel.tape, h.bel.output, h.bel.size, h.bel.block⟩, h.ne, h.lo, h.a0, h.a1, h.al⟩

set_option maxHeartbeats 1000000 in
set_option maxRecDepth 100000 in
theorem model_walk (a0 : Option Addr) (n0 c0 : Nat) (xs : List Int) (a1 : Option Addr) (n1 c1 : Nat) (ys : List (Int × Int)) (w : World)
    (h0 : IntsIn w.heap.size w a0 n0 xs) (l0 : n0 ≤ 9223372036854775807) (r0 : ∀ z ∈ xs, (Lit.int .i64 z).wf = true)
    (h1 : PairsIn w.heap.size w a1 n1 ys) (l1 : n1 ≤ 9223372036854775807) (r1 : ∀ z ∈ ys, (Lit.int .i64 z.1).wf = true ∧ (Lit.int .i64 z.2).wf = true) :
    Calls Try.prog 3 #[.slice a0 n0 c0, .slice a1 n1 c1] w fun e w' => e = .returned (.bool true) ∧ Below w.heap.size w w' := by
  have r1' := Lib.hid r1
  clear r0 r1
  by_cases hbig : 40 < n0 ∨ 300 < n1
  · by_cases hb0 : 40 < n0
    all_goals
      go_enter Try.func3, Try.ntmps3
      go_wp2_with fail
      refine (awake_any _).mono ?_
      rintro e w1 ⟨rfl, hb1⟩
      go_wp2_with fail
      refine (awake_any _).mono ?_
      rintro e w2 ⟨rfl, hb2⟩
      go_wp2_with fail
      go_ret
      exact ⟨rfl, hb1.trans (hb2.mono hb1.size)⟩
  · have hn0 : n0 ≤ 40 := by omega
    have hn1 : n1 ≤ 300 := by omega
    clear hbig
    cases hbad : badNew n0 xs
    · have Hbad := Lib.hid hbad
      have hn1' : 1 ≤ n0 ∧ n0 ≤ 16 := by
        have := hbad; unfold badNew at this; simp at this; omega
      have R := fun w hx => right_any w.heap.size a0 n0 c0 xs w hx l0
      rw [hbad] at R
      clear hbad
      have hn01 : 1 ≤ n0 := hn1'.1
      have hn16 : n0 ≤ 16 := hn1'.2
      clear hn1'
      obtain ⟨i0, hi, hz0, hz1, hz2⟩ := info_parts Try.info3
      go_enter Try.func3, Try.ntmps3
      go_wp2_with fail
      refine (awake_any _).mono ?_
      rintro e w1 ⟨rfl, hb1⟩
      go_wp2_with fail
      refine (new_good w.heap.size _ _ _ xs _ (h0.keep hb1) l0 Hbad.out hb1.size).mono ?_
      rintro e w2 ⟨⟨p, q, cap, rfl, hg2, hp, hq⟩, hb2⟩
      have hb02 : Below w.heap.size w w2 := hb1.trans (hb2.mono hb1.size)
      go_wp2_with fail
      refine (right_any w.heap.size a0 n0 c0 xs _ (h0.keep hb02) l0).mono ?_
      rw [Hbad.out]
      rintro e w3 ⟨rfl, rfl⟩
      have hs2 := hb02.size
      go_wp2_with (at_make; refine wpList_make_full _ rfl _ _ 22 rfl w.heap.size 3 i0 (.int .i64 0) 1 Try.underlying22 hi hz0 hz1 .i64 .i64 _ _ n0 rfl rfl rfl rfl (by rw [hz2]; omega) (by unfold maxLen; omega) hs2 ?_)
      intro w3 own3 gr3
      have hb3 : Below w.heap.size w w3 := hb02.grown gr3 hs2 (by simp)
      have hs3 := hb3.size
      go_wp2_with (at_make; refine wpList_make_full _ rfl _ _ 22 rfl w.heap.size 3 i0 (.int .i64 0) 1 Try.underlying22 hi hz0 hz1 .i64 .i64 _ _ n0 rfl rfl rfl rfl (by rw [hz2]; omega) (by unfold maxLen; omega) hs3 ?_)
      intro w4 own4 gr4
      have hb4 : Below w.heap.size w w4 := hb3.grown gr4 hs3 (by simp)
      have hs4 := hb4.size
      have hG : GuardAt w4 p q cap 0 (newGates xs) := by
        have f1 : Fr (fun _ => False) w2 w3 := ⟨gr3.os, gr3.tape, gr3.output, gr3.size, fun k hk _ => gr3.block k hk (by simp)⟩
        have f2 : Fr (fun _ => False) w3 w4 := ⟨gr4.os, gr4.tape, gr4.output, gr4.size, fun k hk _ => gr4.block k hk (by simp)⟩
        exact (hg2.keep f1 (by simp) (by simp)).keep f2 (by simp) (by simp)
      have hz : ∀ n : Nat, (madeCells #[Value.int IntKind.i64 0] n).toList = (List.replicate n (0 : Int)).map (.int .i64) := made_zeros
      have hlen : (newGates xs).length = n0 := by simp [newGates, h0.1]
      have hO : IntsBlk w4 w2.heap.size ((newGates xs).map (·.opn)) := by
        have f2 : Fr (fun _ => False) w3 w4 := ⟨gr4.os, gr4.tape, gr4.output, gr4.size, fun k hk _ => gr4.block k hk (by simp)⟩
        rw [hz] at own3
        have e : (newGates xs).map (·.opn) = List.replicate n0 0 := by rw [← hlen]; simp [newGates, Function.comp_def, List.map_const']
        rw [e]
        exact (IntsBlk.of_own own3 (by omega)).keep f2 (by simp)
      have hC : IntsBlk w4 w3.heap.size ((newGates xs).map (·.count)) := by
        rw [hz] at own4
        have e : (newGates xs).map (·.count) = List.replicate n0 0 := by rw [← hlen]; simp [newGates, Function.comp_def, List.map_const']
        rw [e]
        exact IntsBlk.of_own own4 (by omega)
      have hap : (newGates xs).map (·.apart) = xs := by simp [newGates, Function.comp_def]
      have hS : StM w w4 p q cap w2.heap.size w3.heap.size 0 (newGates xs) := by
        have hp2 := hg2.p1
        have hq2 := hg2.q1
        have hO2 := hO.lt
        have h23 := (IntsBlk.of_own (by rw [hz] at own3; exact own3) (by omega)).lt
        have := hb1.size
        exact ⟨hG, hO, hC, hb4, by omega, by omega⟩
      clear own3 own4 gr3 gr4 hG hO hC hz hg2 R hb3 hb02 hb2 hb1 hs2 hs3
      generalize w2.heap.size = bo at hS ⊢
      generalize w3.heap.size = bc at hS ⊢
      have Hlen := Lib.hid hlen; clear hlen
      have Hap := Lib.hid hap; clear hap
      go_wp2_with fail
      go_loopw [9] (fun i wr => ∃ (k N : Nat) (gs : List Gate), k ≤ n1 ∧ i = .int .i64 k ∧ N ≤ k ∧ StM w wr p q cap bo bc N gs ∧ Hid (gs.length = n0) ∧ Hid (gs.map (·.apart) = xs)) (fun i _ => n1 - (intOf i).toNat)
      case atStart => exact ⟨0, 0, _, Nat.zero_le _, rfl, Nat.le_refl _, hS, Hlen, Hap⟩
      case round =>
        clear hS Hlen Hap
        obtain ⟨k, N, gs, hk, rfl, hN, hS, Hlen, Hap⟩ := hrel
        by_cases hlt : k < n1
        · obtain ⟨hyl, hy⟩ := h1.keep hS.bel
          obtain ⟨b, off, rfl, hbB, hcc⟩ := hy (by omega)
          have hcell := hcc k (by omega)
          generalize ys[k].1 = g at hcell
          generalize ys[k].2 = t at hcell
          obtain ⟨cg, ct⟩ := hcell
          have H1 := Lib.hid h1; clear h1 hy hcc
          go_upto_region 15 with fail
          have hC := hS.ask g t 31
          generalize wr.alloc (.cells #[.int .i64 g, .int .i64 t] 31) = w5 at hC ⊢
          generalize wr.heap.size = ba at hC ⊢
          clear hS cg ct
          have ca0 := hC.a0
          have ca1 := hC.a1
          go_cut [85] (fun s85 wx => ∃ bb : Bool, s85 = .bool bb ∧ Hid (bb = true ↔ (g < 0 ∨ (n0 : Int) ≤ g ∨ t < 0 ∨ 1099511627776 < t)) ∧ wx = w5)
          case first =>
            by_cases b1 : g < 0
            · go_wp2_with fail
              go_meet
              case rel => exact ⟨true, rfl, ⟨fun _ => by omega, fun _ => rfl⟩, rfl⟩
            by_cases b2 : (n0 : Int) ≤ g
            · go_wp2_with fail
              go_meet
              case rel => exact ⟨true, rfl, ⟨fun _ => by omega, fun _ => rfl⟩, rfl⟩
            by_cases b3 : t < 0
            · go_wp2_with fail
              go_meet
              case rel => exact ⟨true, rfl, ⟨fun _ => by omega, fun _ => rfl⟩, rfl⟩
            · go_wp2_with fail
              go_meet
              case rel => exact ⟨_, rfl, ⟨fun h => by simp only [decide_eq_true_eq] at h; omega, fun h => by simp only [decide_eq_true_eq]; omega⟩, rfl⟩
          case rest =>
            obtain ⟨bb, rfl, Hbb, rfl⟩ := hcut
            go_upto_if 85 with fail
            go_cut [11] (fun s11 wx => s11 = .int .i64 (goStep gs g t).1 ∧ StC w wx p q cap bo bc N ba gs (goStep gs g t).2 g t)
            case first =>
              cases bb
              rotate_left
              · have hb := Hbb.out.1 rfl
                have E : Hid (goStep gs g t = (1, gs)) := by
                  show _ = _
                  unfold goStep; rw [if_pos (by have := Hlen.out; omega)]
                clear hb
                go_wp2_with fail
                go_meet
                case rel => rw [E.out]; exact ⟨rfl, hC⟩
              · have hb : ¬ (g < 0 ∨ (n0 : Int) ≤ g ∨ t < 0 ∨ 1099511627776 < t) := fun h => by have := Hbb.out.2 h; simp at this
                clear Hbb
                obtain ⟨gk, rfl⟩ : ∃ gk : Nat, g = (gk : Int) := ⟨g.toNat, by omega⟩
                have hgk : gk < gs.length := by have := Hlen.out; omega
                have hgkI : (gk : Int) < (n0 : Int) := by omega
                have t0 : 0 ≤ t := by omega
                have t1 : t ≤ 1099511627776 := by omega
                have E : Hid (goStep gs gk t = if t < gs[gk].opn then (6, gs) else (0, gs.set gk { gs[gk] with opn := t + gs[gk].apart, count := gs[gk].count + 1 })) := by
                  show _ = _
                  unfold goStep
                  rw [if_neg (by omega)]
                  simp [List.getD_eq_getElem?_getD, hgk]
                have hr := hC.gd.rng gs[gk] (List.getElem_mem hgk)
                have co := hC.o.cell gk (by simpa using hgk)
                have cc := hC.c.cell gk (by simpa using hgk)
                have fo := hC.o.fz gk
                have fc := hC.c.fz gk
                simp only [List.getElem_map] at co cc
                obtain ⟨b', off', eqa, hb', hx'⟩ := (h0.keep hC.bel).2 (by omega)
                subst eqa
                have ca := hx' gk (by have := h0.1; omega)
                have hxa : xs[gk]'(by have := h0.1; omega) = gs[gk].apart := by
                  have := Hap.out; subst this; simp
                rw [hxa] at ca
                clear hxa hx'
                have PO := Lib.hid (hC.o.put gk (by simpa using hgk))
                clear hb
                by_cases he : t < gs[gk].opn
                · rw [if_pos he] at E
                  generalize gs[gk].opn = o at *
                  go_wp2_with fail
                  go_quiet (fail)
                  go_wp2_with fail
                  go_meet
                  case rel => rw [E.out]; exact ⟨rfl, hC.drewN _⟩
                · rw [if_neg he] at E
                  have PC := Lib.hid (fun w' (h : IntsBlk w' bc (gs.map (·.count))) => h.put gk (by simpa using hgk) (gs[gk].count + 1))
                  have hoo : gs[gk].opn ≤ t := by omega
                  clear he
                  generalize hgo : gs[gk].opn = o at *
                  generalize hga : gs[gk].apart = ap at *
                  generalize hgc : gs[gk].count = c at *
                  have Hgo := Lib.hid hgo; clear hgo
                  have Hga := Lib.hid hga; clear hga
                  have Hgc := Lib.hid hgc; clear hgc
                  go_wp2_with fail
                  go_quiet (fail)
                  go_wp2_with fail
                  go_region
                  have f6 : ∀ m : Nat, Fr (· = bo) wc ((wc.drewN m).setCell ⟨bo, gk, none⟩ (.int .i64 (t + ap))) := fun m => ((⟨rfl, rfl, rfl, Nat.le_refl _, fun _ _ _ => rfl⟩ : Fr (· = bo) wc (wc.drewN m))).setCell (p := ⟨bo, gk, none⟩) rfl _
                  have o6 : ∀ m : Nat, IntsBlk ((wc.drewN m).setCell ⟨bo, gk, none⟩ (.int .i64 (t + ap))) bo ((gs.map (·.opn)).set gk (t + ap)) := fun m => IntsBlk.put (w := wc.drewN m) ⟨hC.o.cell, hC.o.fz, hC.o.lt⟩ gk (by simpa using hgk) _
                  have F6 := Lib.hid f6
                  have O6 := Lib.hid o6
                  clear f6 o6
                  clear co cc ca ca0 ca1 fo fc
                  generalize hw6 : World.setCell (World.drewN wc _) _ _ = w6
                  have f6 : Fr (· = bo) wc w6 := hw6 ▸ F6.out _
                  have o6 : IntsBlk w6 bo ((gs.map (·.opn)).set gk (t + ap)) := hw6 ▸ O6.out _
                  clear hw6 F6 O6
                  have hne := hC.ne
                  have c6 : IntsBlk w6 bc (gs.map (·.count)) := hC.c.keep f6 (by omega)
                  have g6 : GuardAt w6 p q cap N gs := hC.gd.keep f6 (by omega) (by omega)
                  have a06 : w6.cell? ⟨ba, 0, none⟩ = some (.int .i64 gk) := by rw [f6.cell (p := ⟨ba, 0, none⟩) hC.al (by simp; omega)]; exact hC.a0
                  have a16 : w6.cell? ⟨ba, 1, none⟩ = some (.int .i64 t) := by rw [f6.cell (p := ⟨ba, 1, none⟩) hC.al (by simp; omega)]; exact hC.a1
                  have cc6 := c6.cell gk (by simpa using hgk)
                  simp only [List.getElem_map] at cc6
                  rw [Hgc.out] at cc6
                  have fc6 := c6.fz gk
                  have hcI : c ≤ (N : Int) := by omega
                  have hcN : (N : Int) ≤ 300 := by omega
                  have hc0 : 0 ≤ c := by omega
                  have C6 : StC w w6 p q cap bo bc N ba gs gs gk t → True := fun _ => trivial
                  have K6 : StC w (w6.setCell ⟨bc, gk, none⟩ (.int .i64 (c + 1))) p q cap bo bc N ba gs (gs.set gk { gs[gk] with opn := t + ap, count := c + 1 }) gk t := by
                    have f7 : Fr (· = bc) w6 (w6.setCell ⟨bc, gk, none⟩ (.int .i64 (c + 1))) := (Fr.refl (· = bc) _).setCell (p := ⟨bc, gk, none⟩) rfl _
                    have hlo := hC.lo
                    have hb6 : Below w.heap.size w w6 := hC.bel.trans (f6.below (by rintro i _ rfl; omega) hC.bel.size)
                    refine ⟨g6.keep f7 (by omega) (by omega), ?_, ?_, hb6.setCell (by simp; omega) _, hC.ne, hC.lo, ?_, ?_, ?_⟩
                    · rw [List.map_set]; exact o6.keep f7 (by omega)
                    · rw [List.map_set]; exact c6.put gk (by simpa using hgk) (c + 1)
                    · rw [f7.cell (p := ⟨ba, 0, none⟩) (block_lt a06) (by simp; omega)]; exact a06
                    · rw [f7.cell (p := ⟨ba, 1, none⟩) (block_lt a16) (by simp; omega)]; exact a16
                    · have := block_lt a06; simpa [World.setCell] using this
                  clear C6 o6 c6 g6 hne
                  go_wp2_with fail
                  go_meet
                  case rel => rw [E.out]; exact ⟨rfl, K6⟩
            case rest =>
              obtain ⟨rfl, hC2⟩ := hcut
              clear hC ca0 ca1 Hbb
              obtain ⟨r, gs', hE⟩ : ∃ r gs', goStep gs g t = (r, gs') := ⟨_, _, rfl⟩
              have hL := goStep_length gs g t
              have hA := goStep_apart gs g t
              rw [hE] at hC2 hL hA ⊢
              have HE := Lib.hid hE; clear hE
              simp only at hC2 hL hA ⊢
              have Hlen' : Hid (gs'.length = n0) := hL.trans Hlen.out
              have Hap' : Hid (gs'.map (·.apart) = xs) := hA.trans Hap.out
              clear hL hA
              have ca0 := hC2.a0
              have ca1 := hC2.a1
              go_wp2_with fail
              refine (go_is HE.out hC2.gd (by omega)).mono ?_
              rintro e w8 ⟨rfl, hg8, hf8⟩
              have hS8 : StM w w8 p q cap bo bc (N + 1) gs' := by
                have hne := hC2.ne
                have hlo := hC2.lo
                exact ⟨hg8, hC2.o.keep hf8 (by omega), hC2.c.keep hf8 (by omega), hC2.bel.trans (hf8.below (by rintro i _ rfl; omega) hC2.bel.size), by omega, by omega⟩
              clear hg8 hf8 hC2 ca0 ca1 HE
              go_wp2_with fail
              clear wr
              go_loopw [12] (fun i wr2 => ∃ j : Nat, j ≤ n0 ∧ i = .int .i64 j ∧ StM w wr2 p q cap bo bc (N + 1) gs') (fun i _ => n0 - (intOf i).toNat)
              case atStart => exact ⟨0, Nat.zero_le _, rfl, hS8⟩
              case round =>
                clear hS8
                obtain ⟨j, hj, rfl, hS⟩ := hrel
                by_cases hjl : j < n0
                · have hjg : j < gs'.length := by have := Hlen'.out; omega
                  have hjI : (j : Int) < (n0 : Int) := by omega
                  have co := hS.o.cell j (by simpa using hjg)
                  have cc := hS.c.cell j (by simpa using hjg)
                  simp only [List.getElem_map] at co cc
                  have EO : openF gs' j = gs'[j].opn := by unfold openF; rw [if_pos (by omega)]; simp [List.getD_eq_getElem?_getD, hjg]
                  have EC : countF gs' j = gs'[j].count := by unfold countF; rw [if_pos (by omega)]; simp [List.getD_eq_getElem?_getD, hjg]
                  have OP := open_is (r := gs'[j].opn) (b := true) hS.g EO (by simp; omega)
                  have CQ : Hid (∀ n, Calls Try.prog 13 #[.pointer (some ⟨p, 0, none⟩), .int .i64 (j : Int)] (wr.drewN n) fun e w' => e = .returned (.int .i64 gs'[j].count) ∧ w' = wr.drewN n) :=
                    fun n => (count_is (hS.drewN n).g EC).mono fun _ _ ⟨h, e⟩ => ⟨h, e.symm⟩
                  clear EO EC
                  generalize gs'[j].opn = o at co OP
                  generalize gs'[j].count = c at cc CQ
                  have OP' := Lib.hid OP; clear OP
                  go_wp2_with fail
                  refine OP'.out.mono ?_
                  rintro e w9 ⟨rfl, rfl⟩
                  go_wp2_with fail
                  go_quiet ((go_at_call 13; exact Calls.quiet_of_same (CQ.out _)))
                  go_wp2_with fail
                  go_roundw
                  case rel => exact ⟨j + 1, by omega, by go_num, hS.drewN _⟩
                  case measure => simp [intOf]; omega
                · go_wp2_with fail
                  go_roundw
                  case rel => exact ⟨k + 1, N + 1, gs', by omega, by go_num, by omega, hS, Hlen', Hap'⟩
                  case measure => simp [intOf]; omega
        · obtain rfl : k = n1 := by omega
          have hL := Hlen.out
          have C1 : ∀ n, Calls Try.prog 13 #[.pointer (some ⟨p, 0, none⟩), .int .i64 (-1)] (wr.drewN n) fun e w' => e = .returned (.int .i64 0) ∧ wr.drewN n = w' :=
            fun n => count_is (hS.drewN n).g (by unfold countF; rw [if_neg (by omega)])
          have O1 : Calls Try.prog 12 #[.pointer (some ⟨p, 0, none⟩), .int .i64 (n0 : Int)] wr fun e w' => e = .returned (.tuple #[.int .i64 0, .bool false]) ∧ wr = w' :=
            open_is hS.g (by unfold openF; rw [if_neg (by omega)]) (by simp; omega)
          have C1 := Lib.hid C1
          have O1 := Lib.hid O1
          go_wp2_with fail
          refine O1.out.mono ?_
          rintro e w9 ⟨rfl, rfl⟩
          go_wp2_with fail
          refine (C1.out 0).mono ?_
          rintro e w9 ⟨rfl, rfl⟩
          go_wp2_with fail
          go_ret
          exact ⟨rfl, hS.bel⟩
    · have hn := hbad
      have Hbad := Lib.hid hbad; clear hbad hn
      go_enter Try.func3, Try.ntmps3
      go_wp2_with fail
      refine (awake_any _).mono ?_
      rintro e w1 ⟨rfl, hb1⟩
      go_wp2_with fail
      refine (new_bad w.heap.size _ _ _ xs _ (h0.keep hb1) l0 Hbad.out).mono ?_
      rintro e w2 ⟨rfl, rfl⟩
      go_wp2_with fail
      refine (right_any w.heap.size a0 n0 c0 xs _ (h0.keep hb1) l0).mono ?_
      rw [Hbad.out]
      rintro e w3 ⟨rfl, rfl⟩
      go_wp2_with fail
      go_ret
      exact ⟨rfl, hb1⟩
end Go.Proofs.Ytbcoiemjbbbmkaa
