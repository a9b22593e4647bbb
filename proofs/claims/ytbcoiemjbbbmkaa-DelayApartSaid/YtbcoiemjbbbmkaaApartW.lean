/- WALK: DelayApart. -/
import Derived.Test.YtbcoiemjbbbmkaaModelW
namespace Go.Proofs.Ytbcoiemjbbbmkaa
open Go.RowKit
set_option linter.unusedVariables false

theorem Try.info4 : (Try.prog.info? 4).map (fun i => (i.zero, i.size, i.bytes)) = some (some (.bool false), 1, 1) := by kernel_rfl

/-- A block of the law's own that holds bools. -/
structure BoolsBlk (w : World) (b : Nat) (xs : List Bool) : Prop where
  cell : ∀ i (h : i < xs.length), w.cell? ⟨b, i, none⟩ = some (.bool xs[i])
  fz : ∀ o, w.frozen? ⟨b, o, none⟩ = false
  lt : b < w.heap.size

theorem BoolsBlk.keep {S : Nat → Prop} {w w' : World} {b : Nat} {xs : List Bool} (h : BoolsBlk w b xs) (hf : Fr S w w') (hb : ¬ S b) : BoolsBlk w' b xs :=
  ⟨fun i hi => by rw [hf.cell (p := ⟨b, i, none⟩) h.lt hb]; exact h.cell i hi, fun o => by rw [hf.frozen (p := ⟨b, o, none⟩) h.lt hb]; exact h.fz o, Nat.lt_of_lt_of_le h.lt hf.size⟩

theorem BoolsBlk.put {w : World} {b : Nat} {xs : List Bool} (h : BoolsBlk w b xs) (k : Nat) (hk : k < xs.length) (v : Bool) : BoolsBlk (w.setCell ⟨b, k, none⟩ (.bool v)) b (xs.set k v) := by
  refine ⟨fun i hi => ?_, fun o => by rw [World.frozen?_setCell]; exact h.fz o, by simpa [World.setCell] using h.lt⟩
  have hi' : i < xs.length := by simpa using hi
  rw [List.getElem_set]
  split
  · rename_i e; subst e; exact World.cell?_setCell_same _ _ _ (h.cell k hk)
  · rename_i e; rw [World.cell?_setCell_other _ _ _ _ (fun e' => e (by cases e'; rfl))]; exact h.cell i hi'

theorem BoolsBlk.of_own {w : World} {base e b n : Nat} {xs : List Bool} (h : w.ownsRow base e 1 (.slice (some ⟨b, 0, none⟩) n n) n (xs.map .bool)) (hn : 0 < n) : BoolsBlk w b xs := by
  obtain ⟨g, cap, hv, _, hg, _, hc, hf⟩ := ownsRow_cells h hn
  simp at hv
  obtain ⟨rfl, _⟩ := hv
  exact ⟨fun i hi => hc i _ (by simp [hi]), hf, hg⟩

theorem made_falses (n : Nat) : (madeCells #[Value.bool false] n).toList = (List.replicate n false).map .bool := by
  apply List.ext_getElem
  · simp [madeCells]
  · intro i h1 h2
    have : i % 1 = 0 := Nat.mod_one i
    simp [madeCells, this]

/-- How the law's own lists stand to the guard. -/
structure Far (gs : List Gate) (last : List Int) (was : List Bool) : Prop where
  l1 : last.length = gs.length
  l2 : was.length = gs.length
  at_ : ∀ i (h : i < gs.length), 0 ≤ last[i]'(by omega) ∧ last[i]'(by omega) ≤ 1099511627776 ∧ gs[i].opn = if was[i]'(by omega) then last[i]'(by omega) + gs[i].apart else 0

theorem Far.keep {gs : List Gate} {last : List Int} {was : List Bool} (h : Far gs last was) (k : Nat) (hk : k < gs.length) (t c : Int) (h0 : 0 ≤ t) (h1 : t ≤ 1099511627776) :
    Far (gs.set k { gs[k] with opn := t + gs[k].apart, count := c }) (last.set k t) (was.set k true) := by
  refine ⟨by simpa using h.l1, by simpa using h.l2, fun i hi => ?_⟩
  have hi' : i < gs.length := by simpa using hi
  have hr := h.at_ i hi'
  simp only [List.getElem_set]
  split
  · rename_i e; subst e; simp [h0, h1]
  · exact hr

structure StA (w0 w : World) (p q cap bl bw N : Nat) (gs : List Gate) (last : List Int) (was : List Bool) : Prop where
  g : GuardAt w p q cap N gs
  l : IntsBlk w bl last
  b : BoolsBlk w bw was
  bel : Below w0.heap.size w0 w
  ne : bl ≠ p ∧ bl ≠ q ∧ bw ≠ p ∧ bw ≠ q ∧ bl ≠ bw
  lo : w0.heap.size ≤ p ∧ w0.heap.size ≤ q ∧ w0.heap.size ≤ bl ∧ w0.heap.size ≤ bw
  far : Far gs last was

theorem StA.keep {w0 w w' : World} {p q cap bl bw N : Nat} {gs : List Gate} {last : List Int} {was : List Bool} {S : Nat → Prop} (h : StA w0 w p q cap bl bw N gs last was) (hf : Fr S w w')
    (hp : ¬ S p) (hq : ¬ S q) (hl : ¬ S bl) (hb : ¬ S bw) (hS : ∀ i, i < w.heap.size → S i → w0.heap.size ≤ i) : StA w0 w' p q cap bl bw N gs last was :=
  ⟨h.g.keep hf hp hq, h.l.keep hf hl, h.b.keep hf hb, h.bel.trans (hf.below hS h.bel.size), h.ne, h.lo, h.far⟩

set_option maxHeartbeats 1000000 in
set_option maxRecDepth 100000 in
theorem apart_walk (a0 : Option Addr) (n0 c0 : Nat) (xs : List Int) (a1 : Option Addr) (n1 c1 : Nat) (ys : List (Int × Int)) (w : World)
    (h0 : IntsIn w.heap.size w a0 n0 xs) (l0 : n0 ≤ 9223372036854775807) (r0 : ∀ z ∈ xs, (Lit.int .i64 z).wf = true)
    (h1 : PairsIn w.heap.size w a1 n1 ys) (l1 : n1 ≤ 9223372036854775807) (r1 : ∀ z ∈ ys, (Lit.int .i64 z.1).wf = true ∧ (Lit.int .i64 z.2).wf = true) :
    Calls Try.prog 4 #[.slice a0 n0 c0, .slice a1 n1 c1] w fun e w' => e = .returned (.bool true) ∧ Below w.heap.size w w' := by
  clear r0 r1
  cases hbad : badNew n0 xs
  · have Hbad := Lib.hid hbad
    have hn1' : 1 ≤ n0 ∧ n0 ≤ 16 := by
      have := hbad; unfold badNew at this; simp at this; omega
    clear hbad
    have hn01 : 1 ≤ n0 := hn1'.1
    have hn16 : n0 ≤ 16 := hn1'.2
    clear hn1'
    by_cases hn1 : 300 < n1
    · go_enter Try.func4, Try.ntmps4
      go_wp2_with fail
      refine (awake_any _).mono ?_
      rintro e w1 ⟨rfl, hb1⟩
      go_wp2_with fail
      refine (right_any w.heap.size a0 n0 c0 xs _ (h0.keep hb1) l0).mono ?_
      rw [Hbad.out]
      rintro e w3 ⟨rfl, rfl⟩
      go_wp2_with fail
      refine (awake_any _).mono ?_
      rintro e w2 ⟨rfl, hb2⟩
      go_wp2_with fail
      go_ret
      exact ⟨rfl, hb1.trans (hb2.mono hb1.size)⟩
    · have hn1 : n1 ≤ 300 := by omega
      obtain ⟨i0, hi, hz0, hz1, hz2⟩ := info_parts Try.info3
      obtain ⟨i4, ki, kz0, kz1, kz2⟩ := info_parts Try.info4
      go_enter Try.func4, Try.ntmps4
      go_wp2_with fail
      refine (awake_any _).mono ?_
      rintro e w1 ⟨rfl, hb1⟩
      go_wp2_with fail
      refine (right_any w.heap.size a0 n0 c0 xs _ (h0.keep hb1) l0).mono ?_
      rw [Hbad.out]
      rintro e w3 ⟨rfl, rfl⟩
      go_wp2_with fail
      refine (new_good w.heap.size _ _ _ xs _ (h0.keep hb1) l0 Hbad.out hb1.size).mono ?_
      rintro e w2 ⟨⟨p, q, cap, rfl, hg2, hp, hq⟩, hb2⟩
      have hb02 : Below w.heap.size w w2 := hb1.trans (hb2.mono hb1.size)
      have hs2 := hb02.size
      go_wp2_with (at_make; refine wpList_make_full _ rfl _ _ 22 rfl w.heap.size 3 i0 (.int .i64 0) 1 Try.underlying22 hi hz0 hz1 .i64 .i64 _ _ n0 rfl rfl rfl rfl (by rw [hz2]; omega) (by unfold maxLen; omega) hs2 ?_)
      intro w3 own3 gr3
      have hb3 : Below w.heap.size w w3 := hb02.grown gr3 hs2 (by simp)
      have hs3 := hb3.size
      go_wp2_with (at_make; refine wpList_make_full _ rfl _ _ 37 rfl w.heap.size 4 i4 (.bool false) 1 Try.underlying37 ki kz0 kz1 .i64 .i64 _ _ n0 rfl rfl rfl rfl (by rw [kz2]; omega) (by unfold maxLen; omega) hs3 ?_)
      intro w4 own4 gr4
      have hb4 : Below w.heap.size w w4 := hb3.grown gr4 hs3 (by simp)
      have hs4 := hb4.size
      have f3 : Fr (fun _ => False) w2 w3 := ⟨gr3.os, gr3.tape, gr3.output, gr3.size, fun k hk _ => gr3.block k hk (by simp)⟩
      have f4 : Fr (fun _ => False) w3 w4 := ⟨gr4.os, gr4.tape, gr4.output, gr4.size, fun k hk _ => gr4.block k hk (by simp)⟩
      have hlen : (newGates xs).length = n0 := by simp [newGates, h0.1]
      have hap : (newGates xs).map (·.apart) = xs := by simp [newGates, Function.comp_def]
      rw [made_zeros] at own3
      rw [made_falses] at own4
      have hL3 := IntsBlk.of_own own3 (by omega)
      have hL := hL3.keep f4 (by simp)
      have hB := BoolsBlk.of_own own4 (by omega)
      have hFar : Far (newGates xs) (List.replicate n0 0) (List.replicate n0 false) := by
        refine ⟨by simp [hlen], by simp [hlen], fun i hi => ?_⟩
        simp [newGates]
      have hS : StA w w4 p q cap w2.heap.size w3.heap.size 0 (newGates xs) (List.replicate n0 0) (List.replicate n0 false) := by
        have hp2 := hg2.p1
        have hq2 := hg2.q1
        have h23 := hL3.lt
        have := hb1.size
        exact ⟨(hg2.keep f3 (by simp) (by simp)).keep f4 (by simp) (by simp), hL, hB, hb4, by omega, by omega, hFar⟩
      have Hlen := Lib.hid hlen; clear hlen
      have Hap := Lib.hid hap; clear hap
      clear own3 own4 gr3 gr4 hL3 hL hB hg2 hb3 hb02 hb2 hb1 hs2 hs3 f3 f4 hFar
      generalize w2.heap.size = bl at hS ⊢
      generalize w3.heap.size = bw at hS ⊢
      generalize List.replicate n0 (0 : Int) = last0 at hS
      generalize List.replicate n0 false = was0 at hS
      go_wp2_with fail
      go_loopw [9] (fun i wr => ∃ (k N : Nat) (gs : List Gate) (last : List Int) (was : List Bool), k ≤ n1 ∧ i = .int .i64 k ∧ N ≤ k ∧ StA w wr p q cap bl bw N gs last was ∧ Hid (gs.length = n0) ∧ Hid (gs.map (·.apart) = xs)) (fun i _ => n1 - (intOf i).toNat)
      case atStart => exact ⟨0, 0, _, _, _, Nat.zero_le _, rfl, Nat.le_refl _, hS, Hlen, Hap⟩
      case round =>
        clear hS Hlen Hap last0 was0
        obtain ⟨k, N, gs, last, was, hk, rfl, hN, hS, Hlen, Hap⟩ := hrel
        by_cases hlt : k < n1
        · obtain ⟨hyl, hy⟩ := h1.keep hS.bel
          obtain ⟨b, off, rfl, hbB, hcc⟩ := hy (by omega)
          have hcell := hcc k (by omega)
          generalize ys[k].1 = g at hcell
          generalize ys[k].2 = t at hcell
          obtain ⟨cg, ct⟩ := hcell
          have H1 := Lib.hid h1; clear h1 hy hcc
          go_upto_region 12 with fail
          have ca0 := cell_new0 wr #[.int .i64 g, .int .i64 t] 31 0 _ rfl
          have ca1 := cell_new0 wr #[.int .i64 g, .int .i64 t] 31 1 _ rfl
          have hal : wr.heap.size < (wr.alloc (.cells #[.int .i64 g, .int .i64 t] 31)).heap.size := by simp
          have hS5 : StA w (wr.alloc (.cells #[.int .i64 g, .int .i64 t] 31)) p q cap bl bw N gs last was := hS.keep (S := fun _ => False) ((Fr.refl _ _).alloc _) (by simp) (by simp) (by simp) (by simp) (by simp)
          have hba : wr.heap.size ≠ p ∧ wr.heap.size ≠ q ∧ wr.heap.size ≠ bl ∧ wr.heap.size ≠ bw ∧ w.heap.size ≤ wr.heap.size := by
            have := hS.g.p1
            have := hS.g.q1
            have := hS.l.lt
            have := hS.b.lt
            have := hS.bel.size
            omega
          generalize wr.alloc (.cells #[.int .i64 g, .int .i64 t] 31) = w5 at *
          generalize wr.heap.size = ba at *
          clear hS cg ct
          go_cut [72] (fun s72 wx => ∃ bb : Bool, s72 = .bool bb ∧ Hid (bb = true ↔ (g < 0 ∨ (n0 : Int) ≤ g ∨ t < 0 ∨ 1099511627776 < t)) ∧ wx = w5)
          case first =>
            by_cases b1 : g < 0
            · go_wp2_with fail
              go_meet
              case rel => exact ⟨true, rfl, ⟨fun _ => by omega, fun _ => rfl⟩, rfl⟩
            by_cases b2 : (n0 : Int) ≤ g
            · go_wp2_with fail
              go_meet
              case rel => exact ⟨true, rfl, ⟨fun _ => by omega, fun _ => rfl⟩, rfl⟩
            by_cases b3 : t < 0
            · go_wp2_with fail
              go_meet
              case rel => exact ⟨true, rfl, ⟨fun _ => by omega, fun _ => rfl⟩, rfl⟩
            · go_wp2_with fail
              go_meet
              case rel => exact ⟨_, rfl, ⟨fun h => by simp only [decide_eq_true_eq] at h; omega, fun h => by simp only [decide_eq_true_eq]; omega⟩, rfl⟩
          case rest =>
            obtain ⟨bb, rfl, Hbb, rfl⟩ := hcut
            cases bb
            rotate_left
            · go_wp2_with fail
              go_roundw
              case rel => exact ⟨k + 1, N, gs, last, was, by omega, by go_num, by omega, hS5, Hlen, Hap⟩
              case measure => simp [intOf]; omega
            · have hb : ¬ (g < 0 ∨ (n0 : Int) ≤ g ∨ t < 0 ∨ 1099511627776 < t) := fun h => by have := Hbb.out.2 h; simp at this
              clear Hbb
              obtain ⟨gk, rfl⟩ : ∃ gk : Nat, g = (gk : Int) := ⟨g.toNat, by omega⟩
              have hgk : gk < gs.length := by have := Hlen.out; omega
              have hgkI : (gk : Int) < (n0 : Int) := by omega
              have t0 : 0 ≤ t := by omega
              have t1 : t ≤ 1099511627776 := by omega
              have E : goStep gs gk t = if t < gs[gk].opn then (6, gs) else (0, gs.set gk { gs[gk] with opn := t + gs[gk].apart, count := gs[gk].count + 1 }) := by
                unfold goStep
                rw [if_neg (by omega)]
                simp [List.getD_eq_getElem?_getD, hgk]
              clear hb
              have hlk : gk < last.length := by have := hS5.far.l1; omega
              have hwk : gk < was.length := by have := hS5.far.l2; omega
              obtain ⟨la0, la1, hop⟩ := hS5.far.at_ gk hgk
              have hr := hS5.g.rng gs[gk] (List.getElem_mem hgk)
              have hxk : gk < xs.length := by have := h0.1; omega
              have hxa : xs[gk] = gs[gk].apart := by have := Hap.out; subst this; simp
              by_cases he : t < gs[gk].opn
              · rw [if_pos he] at E
                have hwas : was[gk] = true := by
                  cases hw : was[gk]
                  · rw [hw] at hop; simp at hop; omega
                  · rfl
                rw [hwas] at hop
                simp only [if_true] at hop
                go_wp2_with fail
                refine (go_is E hS5.g (by omega)).mono ?_
                rintro e w8 ⟨rfl, hg8, hf8⟩
                have hS8 : StA w w8 p q cap bl bw (N + 1) gs last was :=
                  ⟨hg8, hS5.l.keep hf8 (by have := hS5.ne; omega), hS5.b.keep hf8 (by have := hS5.ne; omega), hS5.bel.trans (hf8.below (by rintro i _ rfl; have := hS5.lo; omega) hS5.bel.size), hS5.ne, hS5.lo, hS5.far⟩
                have d0 : w8.cell? ⟨ba, 0, none⟩ = some (.int .i64 gk) := by rw [hf8.cell (p := ⟨ba, 0, none⟩) hal (by simp; omega)]; exact ca0
                have d1 : w8.cell? ⟨ba, 1, none⟩ = some (.int .i64 t) := by rw [hf8.cell (p := ⟨ba, 1, none⟩) hal (by simp; omega)]; exact ca1
                have cl := hS8.l.cell gk hlk
                have cw := hS8.b.cell gk hwk
                rw [hwas] at cw
                obtain ⟨b', off', eqa, hb', hx'⟩ := (h0.keep hS8.bel).2 (by omega)
                subst eqa
                have ca := hx' gk hxk
                rw [hxa] at ca
                have hfar : t - last[gk] < gs[gk].apart := by omega
                generalize gs[gk].apart = ap at *
                generalize last[gk] = la at *
                clear hx' E hxa hwas hop he ca0 ca1 hS5
                go_wp2_with fail
                go_quiet (fail)
                go_wp2_with fail
                go_roundw
                case rel => exact ⟨k + 1, N + 1, gs, last, was, by omega, by go_num, by omega, hS8.keep (S := fun _ => False) ⟨rfl, rfl, rfl, Nat.le_refl _, fun _ _ _ => rfl⟩ (by simp) (by simp) (by simp) (by simp) (by simp), Hlen, Hap⟩
                case measure => simp [intOf]; omega
              · rw [if_neg he] at E
                have hfar : was[gk] = true → gs[gk].apart ≤ t - last[gk] := by
                  intro hw; rw [hw] at hop; simp at hop; omega
                have HF := Lib.hid (hS5.far.keep gk hgk t (gs[gk].count + 1) t0 t1)
                have EL := Lib.hid (show (gs.set gk { gs[gk] with opn := t + gs[gk].apart, count := gs[gk].count + 1 }).map (·.apart) = gs.map (·.apart) from by have := goStep_apart gs gk t; rw [E] at this; exact this)
                have hE0 := Lib.hid E
                clear E
                generalize hgs' : gs.set gk { gs[gk] with opn := t + gs[gk].apart, count := gs[gk].count + 1 } = gs' at *
                have hlen' : gs'.length = gs.length := by rw [← hgs']; simp
                have Hgs := Lib.hid hgs'; clear hgs'
                go_wp2_with fail
                refine (go_is hE0.out hS5.g (by omega)).mono ?_
                rintro e w8 ⟨rfl, hg8, hf8⟩
                have hl8 := hS5.l.keep hf8 (by have := hS5.ne; omega)
                have hb8 := hS5.b.keep hf8 (by have := hS5.ne; omega)
                have hbel8 : Below w.heap.size w w8 := hS5.bel.trans (hf8.below (by rintro i _ rfl; have := hS5.lo; omega) hS5.bel.size)
                have d0 : w8.cell? ⟨ba, 0, none⟩ = some (.int .i64 gk) := by rw [hf8.cell (p := ⟨ba, 0, none⟩) hal (by simp; omega)]; exact ca0
                have d1 : w8.cell? ⟨ba, 1, none⟩ = some (.int .i64 t) := by rw [hf8.cell (p := ⟨ba, 1, none⟩) hal (by simp; omega)]; exact ca1
                have hba8 : ba < w8.heap.size := Nat.lt_of_lt_of_le hal hf8.size
                have cl := hl8.cell gk hlk
                have cw := hb8.cell gk hwk
                obtain ⟨b', off', eqa, hb', hx'⟩ := (h0.keep hbel8).2 (by omega)
                subst eqa
                have ca := hx' gk hxk
                rw [hxa] at ca
                have hne := hS5.ne
                have hlo := hS5.lo
                generalize gs[gk].apart = ap at *
                generalize hla : last[gk] = la at *
                have Hla := Lib.hid hla; clear hla
                clear hx' hxa hop he ca0 ca1 hS5
                go_wp2_with fail
                go_cut [12] (fun s12 wx => s12 = .bool true ∧ ∃ m, wx = w8.drewN m)
                case first =>
                  cases hw : was[gk]
                  · rw [hw] at cw
                    have Hw := Lib.hid hw; clear hw hfar
                    go_quiet (fail)
                    go_wp2_with fail
                    go_meet
                    case rel => exact ⟨rfl, _, rfl⟩
                  · rw [hw] at cw
                    have hfar' := hfar hw
                    have Hw := Lib.hid hw; clear hw hfar
                    go_quiet (fail)
                    go_wp2_with fail
                    go_meet
                    case rel => exact ⟨rfl, _, rfl⟩
                case rest =>
                  clear cw hfar
                  obtain ⟨rfl, m, rfl⟩ := hcut
                  have f9 : Fr (fun _ => False) w8 (w8.drewN m) := ⟨rfl, rfl, rfl, Nat.le_refl _, fun _ _ _ => rfl⟩
                  have hl9 := hl8.keep f9 (by simp)
                  have hb9 := hb8.keep f9 (by simp)
                  have hg9 := hg8.keep f9 (by simp) (by simp)
                  have hbel9 : Below w.heap.size w (w8.drewN m) := hbel8.trans (f9.below (by simp) hbel8.size)
                  have e0 : (w8.drewN m).cell? ⟨ba, 0, none⟩ = some (.int .i64 gk) := d0
                  have e1 : (w8.drewN m).cell? ⟨ba, 1, none⟩ = some (.int .i64 t) := d1
                  have hba9 : ba < (w8.drewN m).heap.size := hba8
                  clear d0 d1 f9 hl8 hb8 hg8 hbel8 hf8 ca cl
                  generalize w8.drewN m = w9 at *
                  have cl := hl9.cell gk hlk
                  have fl := hl9.fz gk
                  have f10 : Fr (· = bl) w9 (w9.setCell ⟨bl, gk, none⟩ (.int .i64 t)) := (Fr.refl (· = bl) _).setCell (p := ⟨bl, gk, none⟩) rfl _
                  have hl10 := hl9.put gk hlk t
                  have hb10 := hb9.keep f10 (by omega)
                  have hg10 := hg9.keep f10 (by omega) (by omega)
                  have hbel10 := hbel9.trans (f10.below (by rintro i _ rfl; omega) hbel9.size)
                  have e10 : (w9.setCell ⟨bl, gk, none⟩ (.int .i64 t)).cell? ⟨ba, 0, none⟩ = some (.int .i64 gk) := by rw [f10.cell (p := ⟨ba, 0, none⟩) hba9 (by simp; omega)]; exact e0
                  go_upto_region 19 with fail
                  generalize w9.setCell ⟨bl, gk, none⟩ (.int .i64 t) = w10 at *
                  clear cl fl e0 e1 hl9 hb9 hg9 hbel9
                  have cw := hb10.cell gk hwk
                  have fw := hb10.fz gk
                  generalize hwz : was[gk] = wz at cw
                  clear hwz
                  have f11 : Fr (· = bw) w10 (w10.setCell ⟨bw, gk, none⟩ (.bool true)) := (Fr.refl (· = bw) _).setCell (p := ⟨bw, gk, none⟩) rfl _
                  have hb11 := hb10.put gk hwk true
                  have hl11 := hl10.keep f11 (by omega)
                  have hg11 := hg10.keep f11 (by omega) (by omega)
                  have hbel11 := hbel10.trans (f11.below (by rintro i _ rfl; omega) hbel10.size)
                  go_wp2_with fail
                  go_roundw
                  case rel => exact ⟨k + 1, N + 1, gs', last.set gk t, was.set gk true, by omega, by go_num, by omega, ⟨hg11, hl11, hb11, hbel11, by omega, by omega, HF.out⟩, hlen'.trans Hlen.out, EL.out.trans Hap.out⟩
                  case measure => simp [intOf]; omega
        · go_wp2_with fail
          go_ret
          exact ⟨rfl, hS.bel⟩
  · have Hbad := Lib.hid hbad; clear hbad
    go_enter Try.func4, Try.ntmps4
    go_wp2_with fail
    refine (awake_any _).mono ?_
    rintro e w1 ⟨rfl, hb1⟩
    go_wp2_with fail
    refine (right_any w.heap.size a0 n0 c0 xs _ (h0.keep hb1) l0).mono ?_
    rw [Hbad.out]
    rintro e w3 ⟨rfl, rfl⟩
    go_wp2_with fail
    refine (awake_any _).mono ?_
    rintro e w2 ⟨rfl, hb2⟩
    go_wp2_with fail
    go_ret
    exact ⟨rfl, hb1.trans (hb2.mono hb1.size)⟩
end Go.Proofs.Ytbcoiemjbbbmkaa
