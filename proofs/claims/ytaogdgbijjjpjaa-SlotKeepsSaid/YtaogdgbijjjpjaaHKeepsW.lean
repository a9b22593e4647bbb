/- HeapKeeps: the walk. -/
import Derived.Test.YtaogdgbijjjpjaaPutQ
namespace Go.Proofs.Ytaogdgbijjjpjaa
open Go.RowKit
set_option linter.unusedVariables false

/-- A row that may be written. -/
structure Wrt (w : World) (g n : Nat) : Prop where
  some : ∀ o, o < n → ∃ u, w.cell? ⟨g, o, none⟩ = .some u
  fz : ∀ o, w.frozen? ⟨g, o, none⟩ = false
theorem Wrt.set {w : World} {g n : Nat} (h : Wrt w g n) (o : Nat) (v : Value) : Wrt (w.setCell ⟨g, o, none⟩ v) g n := by
  refine ⟨fun k hk => ?_, fun k => by rw [World.frozen?_setCell]; exact h.fz k⟩
  obtain ⟨u, hu⟩ := h.some k hk
  by_cases e : o = k
  · subst e; exact ⟨v, World.cell?_setCell_same _ _ _ hu⟩
  · exact ⟨u, by rw [World.cell?_setCell_other _ _ _ _ (addr_ne e)]; exact hu⟩
theorem Wrt.keep {S : Nat → Prop} {w w' : World} {g n : Nat} (h : Wrt w g n) (hf : Fr S w w') (hg : g < w.heap.size) (hS : ¬ S g) : Wrt w' g n :=
  ⟨fun o ho => by obtain ⟨u, hu⟩ := h.some o ho; exact ⟨u, (hf.cell (p := ⟨g, o, none⟩) hg hS).trans hu⟩, fun o => (hf.frozen (p := ⟨g, o, none⟩) hg hS).trans (h.fz o)⟩

/-- A slice of keys, added to an empty row: the same keys, in a row of one's own. -/
theorem wp_copy {w0 w W : World} {o : Oper} {a : Act} {K : Act → World → Prop} {Q' : Exit → Act → World → Prop} (s y : Operand)
    (ho : o.op = .call { callee := .builtin .append, args := #[s, y], argTypes := #[27, 27] }) (g n c : Nat) (ad : Option Addr) (l : List Q) (hs : a.eval s = .slice (some ⟨g, 0, none⟩) 0 0) (hy : a.eval y = .slice ad n c)
    (hg : g = w.heap.size) (hW : W = w.alloc (.cells #[] 23)) (hown : w.ownsRow w0.heap.size 23 4 (.slice ad n c) n (l.flatMap qc)) (hl : l.length = n) (hn : n ≤ 2000)
    (h : ∀ v' w', w'.ownsRow w.heap.size 23 4 v' n (l.flatMap qc) → Below w.heap.size w w' → K (a.put o.dst v') w') : o.wp Try.prog a W K Q' := by
  subst hW
  obtain ⟨i0, ki, kz0, kz1, kz2⟩ := info_parts Try.info23
  have hsrc : Src (w.alloc (.cells #[] 23)) (.slice ad n c) n (l.flatMap qc) := by
    rcases Nat.eq_zero_or_pos n with h0 | h0
    · subst h0
      have : l = [] := List.eq_nil_of_length_eq_zero hl
      subst this
      rcases ad with _ | ad
      · obtain ⟨_, h2⟩ := hown
        rcases h2 with ⟨hv, _⟩ | ⟨g', cap', cur, hv, _⟩
        · cases hv; exact .inl ⟨rfl, rfl⟩
        · cases hv
      · exact .inr ⟨ad, c, rfl, fun j u hu => by simp at hu⟩
    · obtain ⟨g', cap, hv, hg0, hg1, _, hcell, hfz⟩ := ownsRow_cells hown h0
      cases hv
      exact .inr ⟨⟨g', 0, none⟩, c, rfl, fun j u hu => by
        rw [add_none, Nat.zero_add]
        rw [World.cell?_alloc_lt _ _ _ (by exact hg1)]
        exact hcell j u hu⟩
  refine wp_append_row s y 27 ho w.heap.size 23 i0 _ 4 32 Try.underlying27 ki kz0 kz1 kz2 rfl (by omega) (.slice (some ⟨g, 0, none⟩) 0 0) 0 [] hs (own_lit w w.heap.size g hg (Nat.le_refl _)) (.slice ad n c) n (l.flatMap qc) hy (by rw [flat_length, hl]) hsrc (qc_one l) (by unfold maxLen; omega) (by omega) (by simp) ?_
  intro v' w' h2 h3 h4
  refine h v' w' (by simpa using h2) ?_
  exact Below.grown ((Below.refl _ w).alloc (Nat.le_refl _) _) h3 (by simp) fun k e => by simp [Value.ownBlock] at e; omega

theorem wpList_copy {w0 w W : World} {ops : Array Oper} {rest : List Oper} {o : Oper} {a : Act} {Q' : Exit → Act → World → Prop} (hgd : o.guard = none) (s y : Operand)
    (ho : o.op = .call { callee := .builtin .append, args := #[s, y], argTypes := #[27, 27] }) (g n c : Nat) (ad : Option Addr) (l : List Q) (hs : a.eval s = .slice (some ⟨g, 0, none⟩) 0 0) (hy : a.eval y = .slice ad n c)
    (hg : g = w.heap.size) (hW : W = w.alloc (.cells #[] 23)) (hown : w.ownsRow w0.heap.size 23 4 (.slice ad n c) n (l.flatMap qc)) (hl : l.length = n) (hn : n ≤ 2000)
    (h : ∀ v' w', w'.ownsRow w.heap.size 23 4 v' n (l.flatMap qc) → Below w.heap.size w w' → wpList Try.prog ops Q' rest (a.put o.dst v') w') : wpList Try.prog ops Q' (o :: rest) a W :=
  wpList_plain hgd fun _ hK => wp_copy s y ho g n c ad l hs hy hg hW hown hl hn fun v' w' h1 h2 => hK _ _ (h v' w' h1 h2)

theorem fr_set4 (wr : World) (g o : Nat) (u0 u1 u2 u3 : Value) : Fr (· = g) wr ((((wr.setCell ⟨g, o, none⟩ u0).setCell ⟨g, o + 1, none⟩ u1).setCell ⟨g, o + 2, none⟩ u2).setCell ⟨g, o + 3, none⟩ u3) :=
  (((((Fr.refl (· = g) _).setCell (p := ⟨g, _, none⟩) rfl _).setCell (p := ⟨g, _, none⟩) rfl _).setCell (p := ⟨g, _, none⟩) rfl _).setCell (p := ⟨g, _, none⟩) rfl _)

set_option maxHeartbeats 4000000 in
set_option maxRecDepth 100000 in
theorem hkeeps_walk (a0 : Option Addr) (n0 c0 : Nat) (ys : List Q) (w : World) (h1 : QsIn w.heap.size w a0 n0 ys) (l1 : n0 ≤ 9223372036854775807) :
    Calls Try.prog 4 #[.slice a0 n0 c0] w fun e w' => e = .returned (.bool true) ∧ Below w.heap.size w w' := by
  by_cases hbig : 300 < n0
  · go_enter Try.func4, Try.ntmps4
    go_wp2_with fail
    refine (hawake_any _).mono ?_
    rintro e w1 ⟨rfl, hb1⟩
    go_wp2_with fail
    refine (hawake_any _).mono ?_
    rintro e w2 ⟨rfl, hb2⟩
    go_wp2_with fail
    go_ret
    exact ⟨rfl, hb1.trans (hb2.mono hb1.size)⟩
  · have hn0 : n0 ≤ 300 := by omega
    go_enter Try.func4, Try.ntmps4
    go_wp2_with fail
    refine (hawake_any _).mono ?_
    rintro e w1 ⟨rfl, hb1⟩
    go_wp2_with fail
    refine (HO.new hb1 1024 (by omega) (by omega)).mono ?_
    rintro e w2 ⟨p, F2, rfl, h2, _, _⟩
    go_wp2_with fail
    go_loopw [5] (fun i wr => ∃ (j : Nat) (m : List Q) (F : Nat → Prop), j ≤ n0 ∧ i = .int .i64 j ∧ HO w wr p 1024 F m) (fun i _ => n0 - (intOf i).toNat)
    case atStart => exact ⟨0, [], F2, Nat.zero_le _, rfl, h2⟩
    case round =>
      clear h2 hb1
      obtain ⟨j, m, F, hj, rfl, hW⟩ := hrel
      by_cases hlt : j < n0
      · obtain ⟨hyl, hy⟩ := h1.keep hW.bel
        obtain ⟨b, off, rfl, hbB, hcc⟩ := hy (by omega)
        obtain ⟨c0, c1, c2, c3⟩ := hcc j (by omega)
        generalize ys[j].1 = x0 at *
        generalize ys[j].2.1 = x1 at *
        generalize ys[j].2.2.1 = x2 at *
        generalize ys[j].2.2.2 = x3 at *
        have H1 := Lib.hid h1; clear h1 hy hcc
        have hjI : (j : Int) < (n0 : Int) := by omega
        have hA := Lib.hid (hW.push (a := x0) (b := x1) (c := x2) (d := x3) (r := (pushM 1024 m (x0, x1, x2, x3)).1) (m' := (pushM 1024 m (x0, x1, x2, x3)).2) rfl)
        go_wp2_with fail
        refine hA.out.mono ?_
        rintro e w3 ⟨rfl, F3, h3, _, _⟩
        generalize (pushM 1024 m (x0, x1, x2, x3)).1 = r
        generalize (pushM 1024 m (x0, x1, x2, x3)).2 = m' at h3
        go_wp2_with fail
        go_roundw
        case rel => exact ⟨j + 1, m', F3, by omega, by go_num, h3⟩
        case measure => simp [intOf]; omega
      · have hml : m.length ≤ 1024 := hW.a.len.1
        have HS := Lib.hid (sorted_m hW.a)
        have HW := Lib.hid hW
        clear hW
        go_wp2_with fail
        refine HS.out.mono ?_
        rintro e w4 ⟨a, c, rfl, hown, hb4⟩
        have h4 := HW.out.below hb4
        have hFlt : ∀ k, F k → k < wr.heap.size := fun k hk => (HW.out.a.flt k hk).1
        have hB4 := HW.out.bel.size
        have Hx : Hid (0 < m.length → ∃ g, a = some ⟨g, 0, none⟩ ∧ Wrt w4 g (m.length * 4) ∧ ¬ F g ∧ w.heap.size ≤ g ∧ g < w4.heap.size) := by
          intro hpos
          obtain ⟨g, cap, hv, hg0, hg, _, hcell, hfz⟩ := ownsRow_cells hown hpos
          simp only [Value.slice.injEq] at hv
          obtain ⟨rfl, _, _⟩ := hv
          refine ⟨g, rfl, ⟨fun o ho => ?_, hfz⟩, fun hk => by have := hFlt g hk; omega, by omega, hg⟩
          exact ⟨_, hcell o _ (List.getElem?_eq_getElem (by rw [flat_length]; exact ho))⟩
        have H4 := Lib.hid h4
        have Hown := Lib.hid hown
        clear h4 hown HS HW hFlt
        go_wp2_with (at_builtin; refine wpList_copy (w0 := wr) (w := w4) rfl _ _ rfl w4.heap.size m.length c a m rfl rfl rfl rfl Hown.out rfl (by omega) ?_)
        intro v5 w5 hown5 hb5
        obtain ⟨a5, c5, rfl⟩ := ownsRow_form hown5
        have h5 := H4.out.below hb5
        have Hx5 : Hid (0 < m.length → ∃ g, a = some ⟨g, 0, none⟩ ∧ Wrt w5 g (m.length * 4) ∧ ¬ F g ∧ w.heap.size ≤ g ∧ g < w4.heap.size) := by
          intro hpos
          obtain ⟨g, e, hw, hF, hg, hlt'⟩ := Hx.out hpos
          exact ⟨g, e, hw.keep (Fr.of_below (S := fun _ => False) hb5) hlt' (by simp), hF, hg, hlt'⟩
        have hs5 : w4.heap.size ≤ w5.heap.size := hb5.size
        have hs4 : w.heap.size ≤ w4.heap.size := H4.out.bel.size
        clear Hx Hown hb5 hb4 H4
        go_wp2_with fail
        go_loopw [8] (fun i wx => ∃ q : Nat, q ≤ m.length ∧ i = .int .i64 q ∧ HO w wx p 1024 F m ∧ Hid (0 < m.length → ∃ g, a = some ⟨g, 0, none⟩ ∧ Wrt wx g (m.length * 4) ∧ ¬ F g ∧ w.heap.size ≤ g ∧ g < w4.heap.size) ∧ Hid (wx.ownsRow w4.heap.size 23 4 (.slice a5 m.length c5) m.length (m.flatMap qc))) (fun i _ => m.length - (intOf i).toNat)
        case atStart => exact ⟨0, Nat.zero_le _, rfl, h5, Hx5, hown5⟩
        case round =>
          clear h5 Hx5 hown5 hs5
          obtain ⟨q, hq, rfl, hWq, hx, hoq⟩ := hrel
          by_cases hqx : q < m.length
          · obtain ⟨g, rfl, hw, hFg, hgw, hg4⟩ := hx.out (by omega)
            obtain ⟨u0, cu0⟩ := hw.some (q * 4) (by omega)
            obtain ⟨u1, cu1⟩ := hw.some (q * 4 + 1) (by omega)
            obtain ⟨u2, cu2⟩ := hw.some (q * 4 + 2) (by omega)
            obtain ⟨u3, cu3⟩ := hw.some (q * 4 + 3) (by omega)
            have fz0 := hw.fz (q * 4)
            have fz1 := hw.fz (q * 4 + 1)
            have fz2 := hw.fz (q * 4 + 2)
            have fz3 := hw.fz (q * 4 + 3)
            have hw2 := Lib.hid ((((hw.set (q * 4) (.int .i64 0)).set (q * 4 + 1) (.int .i64 0)).set (q * 4 + 2) (.int .i64 0)).set (q * 4 + 3) (.int .i64 (-9)))
            have hfr := fr_set4 wr g (q * 4) (.int .i64 0) (.int .i64 0) (.int .i64 0) (.int .i64 (-9))
            have hHH := hWq.a.keep hfr (fun k hk e => hFg (by subst e; exact hk))
            have hW2 : HO w _ p 1024 F m := ⟨hHH, hWq.bel.trans (hfr.below (by rintro i _ rfl; exact hgw) hWq.bel.size)⟩
            have HW2 := Lib.hid hW2
            have ho2 := Lib.hid (ownsRow_keep (w' := (((wr.setCell ⟨g, q * 4, none⟩ (.int .i64 0)).setCell ⟨g, q * 4 + 1, none⟩ (.int .i64 0)).setCell ⟨g, q * 4 + 2, none⟩ (.int .i64 0)).setCell ⟨g, q * 4 + 3, none⟩ (.int .i64 (-9))) hoq.out fun k hk => hfr.block k (ownsRow_lt hoq.out k hk) (fun e => by have := ownsRow_block hoq.out k hk; omega))
            have hqI : (q : Int) < (m.length : Int) := by omega
            clear hx hw hW2 hHH hfr hWq hoq
            go_wp2_with fail
            go_roundw
            case rel => exact ⟨q + 1, by omega, by go_num, HW2.out, (by intro _; exact ⟨g, rfl, hw2.out, hFg, hgw, hg4⟩), ho2.out⟩
            case measure => simp [intOf]; omega
          · have HS := Lib.hid (sorted_m hWq.a)
            have Hb := Lib.hid hWq.bel
            have Hoq := hoq
            clear hWq hx hoq
            go_wp2_with fail
            refine HS.out.mono ?_
            rintro e w6 ⟨a6, c6, rfl, hown6, hb6⟩
            have hq6 := qs_of_own hown6 rfl
            have hq5 := (qs_of_own Hoq.out rfl).keep hb6
            have hq5' : QsIn w6.heap.size w6 a5 m.length m := ⟨hq5.1, fun h => by obtain ⟨b, off, e, hlt, hc⟩ := hq5.2 h; exact ⟨b, off, e, Nat.lt_of_lt_of_le hlt hb6.size, hc⟩⟩
            have HM := Lib.hid (same_any w6.heap.size a6 a5 m.length c6 c5 m w6 hq6 hq5' (Nat.le_refl _) (by omega))
            have hb6' := Hb.out.trans (hb6.mono Hb.out.size)
            clear hq6 hq5 hq5' hown6 Hoq
            go_wp2_with fail
            refine HM.out.mono ?_
            rintro e w7 ⟨rfl, hb7⟩
            go_wp2_with fail
            go_ret
            exact ⟨rfl, hb6'.trans (hb7.mono hb6'.size)⟩
end Go.Proofs.Ytaogdgbijjjpjaa
