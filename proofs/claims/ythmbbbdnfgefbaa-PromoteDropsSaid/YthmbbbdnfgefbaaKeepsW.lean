/- WALK: WheelKeeps. -/
import Derived.Test.YthmbbbdnfgefbaaFullW
namespace Go.Proofs.Ythmbbbdnfgefbaa
open Go.RowKit
set_option linter.unusedVariables false

/-- A row that may be written. -/
structure Wrt (w : World) (g n : Nat) : Prop where
  some : ∀ o, o < n → ∃ u, w.cell? ⟨g, o, none⟩ = .some u
  fz : ∀ o, w.frozen? ⟨g, o, none⟩ = false
theorem Wrt.set {w : World} {g n : Nat} (h : Wrt w g n) (o : Nat) (v : Value) : Wrt (w.setCell ⟨g, o, none⟩ v) g n := by
  refine ⟨fun k hk => ?_, fun k => by rw [World.frozen?_setCell]; exact h.fz k⟩
  obtain ⟨u, hu⟩ := h.some k hk
  by_cases e : o = k
  · subst e; exact ⟨v, World.cell?_setCell_same _ _ _ hu⟩
  · exact ⟨u, by rw [World.cell?_setCell_other _ _ _ _ (addr_ne e)]; exact hu⟩

set_option maxHeartbeats 2000000 in
set_option maxRecDepth 100000 in
theorem keeps_walk (a0 : Option Addr) (n0 c0 : Nat) (ys : List (Int × Int)) (w : World)
    (h1 : PairsIn w.heap.size w a0 n0 ys) (l1 : n0 ≤ 9223372036854775807) (r1 : ∀ z ∈ ys, (Lit.int .i64 z.1).wf = true ∧ (Lit.int .i64 z.2).wf = true) :
    Calls Try.prog 5 #[.slice a0 n0 c0] w fun e w' => e = .returned (.bool true) ∧ Below w.heap.size w w' := by
  clear r1
  by_cases hbig : 200 < n0
  · go_enter Try.func5, Try.ntmps5
    go_wp2_with fail
    refine (awake_any _).mono ?_
    rintro e w1 ⟨rfl, hb1⟩
    go_wp2_with fail
    refine (awake_any _).mono ?_
    rintro e w2 ⟨rfl, hb2⟩
    go_wp2_with fail
    go_ret
    exact ⟨rfl, hb1.trans (hb2.mono hb1.size)⟩
  · have hn0 : n0 ≤ 200 := by omega
    go_enter Try.func5, Try.ntmps5
    go_wp2_with fail
    refine (awake_any _).mono ?_
    rintro e w1 ⟨rfl, hb1⟩
    go_wp2_with fail
    refine (WO.new hb1 1024 (by omega) (by omega)).mono ?_
    rintro e w2 ⟨p, rfl, h2⟩
    go_wp2_with fail
    go_loopw [5] (fun i wr => ∃ (j : Nat) (m : List (Int × Int)), j ≤ n0 ∧ i = .int .i64 j ∧ WO w wr p 1024 0 m) (fun i _ => n0 - (intOf i).toNat)
    case atStart => exact ⟨0, [], Nat.zero_le _, rfl, h2⟩
    case round =>
      clear h2 hb1
      obtain ⟨j, m, hj, rfl, hW⟩ := hrel
      by_cases hlt : j < n0
      · obtain ⟨hyl, hy⟩ := h1.keep hW.2
        obtain ⟨b, off, rfl, hbB, hcc⟩ := hy (by omega)
        have hcell := hcc j (by omega)
        generalize ys[j].1 = da at hcell
        generalize ys[j].2 = di at hcell
        obtain ⟨cg, ct⟩ := hcell
        have H1 := Lib.hid h1; clear h1 hy hcc
        have hjI : (j : Int) < (n0 : Int) := by omega
        have hA := Lib.hid (hW.add da di)
        go_wp2_with fail
        refine hA.out.mono ?_
        rintro e w3 ⟨rfl, h3⟩
        generalize (addM 0 1024 m (da, di)).1 = r
        generalize (addM 0 1024 m (da, di)).2 = m' at h3
        go_wp2_with fail
        go_roundw
        case rel => exact ⟨j + 1, m', by omega, by go_num, h3⟩
        case measure => simp [intOf]; omega
      · have hV := Lib.hid (hW.adv 50 (by omega) (by omega))
        go_wp2_with fail
        refine hV.out.mono ?_
        rintro e w4 ⟨a, c, rfl, hown, ⟨F', hW4, hF'⟩, hb4⟩
        have h4 : WO w w4 p 1024 50 (m.filter fun d => !decide (d.1 ≤ 50)) := ⟨⟨F', hW4⟩, hb4⟩
        have hgt : ∀ d ∈ m.filter (fun d => !decide (d.1 ≤ 50)), 50 < d.1 := fun d hd => by have := (List.mem_filter.1 hd).2; simp at this; omega
        have HL := Lib.hid h4.len
        have hxl : (m.filter fun d => decide (d.1 ≤ 50)).length ≤ 1024 := by
          obtain ⟨⟨F, hW0⟩, _⟩ := hW
          have := hW0.len.1
          have := List.length_filter_le (fun d : Int × Int => decide (d.1 ≤ 50)) m
          omega
        have hx : Hid (0 < (m.filter fun d => decide (d.1 ≤ 50)).length → ∃ g, a = some ⟨g, 0, none⟩ ∧ Wrt w4 g ((m.filter fun d => decide (d.1 ≤ 50)).length * 2) ∧ ¬ F' g ∧ w.heap.size ≤ g) := by
          intro hpos
          obtain ⟨g, cap, hv, hg0, hg, _, hcell, hfz⟩ := ownsRow_cells hown hpos
          simp only [Value.slice.injEq] at hv
          obtain ⟨rfl, _, _⟩ := hv
          refine ⟨g, rfl, ⟨fun o ho => ?_, hfz⟩, hF' g rfl, Nat.le_trans hW.2.size hg0⟩
          have hlen := flat_length (m.filter fun d => decide (d.1 ≤ 50))
          exact ⟨_, hcell o _ (List.getElem?_eq_getElem (by rw [hlen]; exact ho))⟩
        clear hW hV h4 hown hF'
        generalize (m.filter fun d => decide (d.1 ≤ 50)) = x at *
        generalize (m.filter fun d => !decide (d.1 ≤ 50)) = m' at *
        have Hgt := Lib.hid hgt; clear hgt
        go_wp2_with fail
        refine HL.out.mono ?_
        rintro e w5 ⟨rfl, rfl⟩
        clear HL
        go_wp2_with fail
        go_loopw [9] (fun i wr => ∃ q : Nat, q ≤ x.length ∧ i = .int .i64 q ∧ WH w.heap.size wr p F' 1024 50 m' ∧ Hid (0 < x.length → ∃ g, a = some ⟨g, 0, none⟩ ∧ Wrt wr g (x.length * 2) ∧ ¬ F' g ∧ w.heap.size ≤ g) ∧ Below w.heap.size w wr) (fun i _ => x.length - (intOf i).toNat)
        case atStart => exact ⟨0, Nat.zero_le _, rfl, hW4, hx, hb4⟩
        case round =>
          clear hW4 hx hb4
          obtain ⟨q, hq, rfl, hWq, hx, hbq⟩ := hrel
          by_cases hqx : q < x.length
          · obtain ⟨g, rfl, hw, hFg, hgw⟩ := hx.out (by omega)
            obtain ⟨u0, cu0⟩ := hw.some (q * 2) (by omega)
            obtain ⟨u1, cu1⟩ := hw.some (q * 2 + 1) (by omega)
            have fz0 := hw.fz (q * 2)
            have fz1 := hw.fz (q * 2 + 1)
            have hw2 := Lib.hid ((hw.set (q * 2) (.int .i64 1)).set (q * 2 + 1) (.int .i64 77))
            have hfr : Fr (· = g) wr ((wr.setCell ⟨g, q * 2, none⟩ (.int .i64 1)).setCell ⟨g, q * 2 + 1, none⟩ (.int .i64 77)) := ((Fr.refl (· = g) _).setCell (p := ⟨g, _, none⟩) rfl _).setCell (p := ⟨g, _, none⟩) rfl _
            have hWq2 := hWq.keep hfr (fun k hk e => hFg (by subst e; exact hk))
            have hbq2 := hbq.trans (hfr.below (by rintro i _ rfl; exact hgw) hbq.size)
            have hqI : (q : Int) < (x.length : Int) := by omega
            clear hx hw
            go_wp2_with fail
            go_roundw
            case rel => exact ⟨q + 1, by omega, by go_num, hWq2, (by intro _; exact ⟨g, rfl, hw2.out, hFg, hgw⟩), hbq2⟩
            case measure => simp [intOf]; omega
          · have h6 : WO w wr p 1024 50 m' := ⟨⟨F', hWq⟩, hbq⟩
            have hmem : ∀ d ∈ m', d.1 ≤ 1099511627776 := fun d hd => (hWq.mem hd).2
            have e1 : m'.filter (fun d => decide (d.1 ≤ 1099511627776)) = m' := List.filter_eq_self.2 fun d hd => by simpa using hmem d hd
            have hV := h6.adv 1099511627776 (by omega) (by omega)
            rw [e1] at hV
            have HV := Lib.hid hV
            have hml : m'.length ≤ 1024 := by have := hWq.len; omega
            clear hV e1 hmem h6 hWq hx
            go_wp2_with fail
            refine HV.out.mono ?_
            rintro e w6 ⟨a6, c6, rfl, hown6, _, hb6⟩
            have hD := dues_of_own hown6 rfl
            clear hown6
            go_wp2_with fail
            go_loop [12] (fun i => ∃ q : Nat, q ≤ m'.length ∧ i = .int .i64 q) (fun i => m'.length - (intOf i).toNat)
            case atStart => exact ⟨0, Nat.zero_le _, rfl⟩
            case round =>
              obtain ⟨y, hy, rfl⟩ := hrel
              by_cases hyl : y < m'.length
              · obtain ⟨b, off, rfl, hbB, hcc⟩ := hD.2 (by omega)
                have hcell := (hcc y hyl).1
                have hgt := Hgt.out m'[y] (List.getElem_mem hyl)
                generalize m'[y].1 = da at *
                have HD := Lib.hid hD
                have hyI : (y : Int) < (m'.length : Int) := by omega
                clear hcc hD
                go_wp2_with fail
                go_round
                case rel => exact ⟨y + 1, by omega, by go_num⟩
                case measure => simp [intOf]; omega
              · go_wp2_with fail
                go_ret
                exact ⟨rfl, hb6⟩
end Go.Proofs.Ythmbbbdnfgefbaa
