/- WALK: PromoteKeeps. -/
import Derived.Test.YthmbbbdnfgefbaaP3
import Derived.Test.YthmbbbdnfgefbaaKeepsW
namespace Go.Proofs.Ythmbbbdnfgefbaa
open Go.RowKit
set_option linter.unusedVariables false

def U8In (B : Nat) (w : World) (a : Option Addr) (n : Nat) (xs : List Int) : Prop :=
  xs.length = n ∧ (0 < n → ∃ b off, a = some ⟨b, off, none⟩ ∧ b < B ∧ ∀ j (h : j < xs.length), w.cell? ⟨b, off + j, none⟩ = some (.int .u8 xs[j]))
theorem U8In.keep {w w' : World} {a : Option Addr} {n B : Nat} {xs : List Int} (h : U8In B w a n xs) (hb : Below B w w') : U8In B w' a n xs :=
  ⟨h.1, fun hn => by
    obtain ⟨b, off, e, hlt, hc⟩ := h.2 hn
    exact ⟨b, off, e, hlt, fun j hj => (hb.cell (p := ⟨b, off + j, none⟩) hlt).trans (hc j hj)⟩⟩
theorem u8_bd {x : Int} (h : (Lit.int .u8 x).wf = true) : 0 ≤ x ∧ x ≤ 255 := by
  simp [Lit.wf] at h
  have e1 : IntKind.u8.min = 0 := rfl
  have e2 : IntKind.u8.max = 255 := rfl
  omega

/-- What waits: j jobs, numbered below j, at times that are not far. -/
def Few (m : List (Int × Int)) (j : Nat) (T : Int) : Prop := m.length = j ∧ ∀ d ∈ m, 0 ≤ d.2 ∧ d.2 < j ∧ 0 ≤ d.1 ∧ d.1 ≤ T
theorem Few.add {m : List (Int × Int)} {j : Nat} {T t : Int} (h : Few m j T) (h0 : 0 ≤ t) (h1 : t ≤ T) (hT : T ≤ 1000) (hj : j < 200) : addM 0 200 m (t, (j : Int)) = (0, ins (t, (j : Int)) m) ∧ Few (ins (t, (j : Int)) m) (j + 1) T := by
  have hany : (m.any fun x => x.2 == (j : Int)) = false := List.any_eq_false.2 fun d hd => by have := (h.2 d hd).2.1; simp; omega
  refine ⟨?_, ?_, ?_⟩
  · unfold addM
    rw [if_neg (by simp; omega), if_neg (by rw [hany]; simp), if_neg (by have := h.1; omega)]
  · rw [(ins_perm _ _).length_eq]; simp [h.1]
  · intro d hd
    rcases List.mem_cons.1 ((ins_perm _ _).mem_iff.1 hd) with rfl | hd
    · exact ⟨by simp, by show (j : Int) < ((j + 1 : Nat) : Int); omega, h0, h1⟩
    · have := h.2 d hd; exact ⟨this.1, by omega, this.2.2.1, this.2.2.2⟩

set_option maxHeartbeats 4000000 in
set_option maxRecDepth 100000 in
theorem pkeeps_walk (a0 : Option Addr) (n0 c0 : Nat) (ys : List Int) (w : World)
    (h1 : U8In w.heap.size w a0 n0 ys) (l1 : n0 ≤ 9223372036854775807) (r1 : ∀ z ∈ ys, (Lit.int .u8 z).wf = true) :
    Calls Try.prog 10 #[.slice a0 n0 c0] w fun e w' => e = .returned (.bool true) ∧ Below w.heap.size w w' := by
  have hys : ∀ j (h : j < ys.length), 0 ≤ ys[j] ∧ ys[j] ≤ 255 := fun j hj => u8_bd (r1 _ (List.getElem_mem hj))
  have Hys := Lib.hid hys
  clear r1 hys
  by_cases hbig : 100 < n0
  · go_enter Try.func10, Try.ntmps10
    go_wp2_with fail
    refine (pawake_any _).mono ?_
    rintro e w1 ⟨rfl, hb1⟩
    go_wp2_with fail
    refine (pawake_any _).mono ?_
    rintro e w2 ⟨rfl, hb2⟩
    go_wp2_with fail
    go_ret
    exact ⟨rfl, hb1.trans (hb2.mono hb1.size)⟩
  · have hn0 : n0 ≤ 100 := by omega
    go_enter Try.func10, Try.ntmps10
    go_wp2_with fail
    refine (pawake_any _).mono ?_
    rintro e w1 ⟨rfl, hb1⟩
    go_wp2_with fail
    refine (PX.new hb1 200 (by omega) (by omega)).mono ?_
    rintro e w2 ⟨q, p, F2, rfl, h2, _, _, _⟩
    go_wp2_with fail
    go_loopw [5] (fun i wr => ∃ (j : Nat) (m : List (Int × Int)) (F : Nat → Prop), j ≤ n0 ∧ i = .int .i64 j ∧ PX w wr q p 200 F 0 m ∧ Hid (Few m j 260)) (fun i _ => n0 - (intOf i).toNat)
    case atStart => exact ⟨0, [], F2, Nat.zero_le _, rfl, h2, ⟨rfl, by simp⟩⟩
    case round =>
      clear h2 hb1
      obtain ⟨j, m, F, hj, rfl, hW, HF⟩ := hrel
      by_cases hlt : j < n0
      · obtain ⟨hyl, hy⟩ := h1.keep hW.bel
        obtain ⟨b, off, rfl, hbB, hcc⟩ := hy (by omega)
        have hcell := hcc j (by omega)
        have hyb := Hys.out j (by omega)
        generalize ys[j] = y at *
        obtain ⟨y0, y1⟩ := hyb
        obtain ⟨e1, e2⟩ := HF.out.add (t := y + 5) (by omega) (by omega) (by omega) (by omega)
        have E2 := Lib.hid e2
        have hA := Lib.hid (hW.wait_is (id := (j : Int)) (release := y) (d := 9) (r := 4) (x := y + 5) (y := 0) (m' := ins (y + 5, (j : Int)) m) (by omega) (by
          have := waitM_ok (now := 0) (room := ((200 : Nat) : Int)) (m := m) (id := (j : Int)) (release := y) (d := 9) (r := 4) (by omega) (by omega) y0 (by omega) (by rw [show y + (9 - 4) = y + 5 by omega]; show (addM 0 200 m (y + 5, (j : Int))).1 = 0; rw [e1])
          rw [this, show y + (9 - 4) = y + 5 by omega]
          show (y + 5, (0 : Int), (addM 0 200 m (y + 5, (j : Int))).2) = _
          rw [e1]))
        have H1 := Lib.hid h1; clear h1 hy hcc e1 e2
        have hjI : (j : Int) < (n0 : Int) := by omega
        go_wp2_with fail
        refine hA.out.mono ?_
        rintro e w3 ⟨rfl, F3, h3, _⟩
        go_wp2_with fail
        go_roundw
        case rel => exact ⟨j + 1, _, F3, by omega, by go_num, h3, E2⟩
        case measure => simp [intOf]; omega
      · obtain rfl : j = n0 := by omega
        have hV := Lib.hid (hW.adv 100 (by omega) (by omega))
        have hsum : (m.filter fun d => decide (d.1 ≤ 100)).length + (m.filter fun d => !decide (d.1 ≤ 100)).length = j := by rw [← HF.out.1]; exact filter_split (fun d : Int × Int => decide (d.1 ≤ 100)) m
        go_wp2_with fail
        refine hV.out.mono ?_
        rintro e w4 ⟨v4, F4, rfl, hown, h4, _, hv4, _⟩
        have hall : ∀ d ∈ m.filter (fun d => !decide (d.1 ≤ 100)), d.1 ≤ 1000 ∧ 0 ≤ d.2 := fun d hd => by have := HF.out.2 d (List.mem_filter.1 hd).1; omega
        have HL := Lib.hid h4.waiting
        have hx : Hid (0 < (m.filter fun d => decide (d.1 ≤ 100)).length → ∃ g c, v4 = .slice (some ⟨g, 0, none⟩) (m.filter fun d => decide (d.1 ≤ 100)).length c ∧ Wrt w4 g (m.filter fun d => decide (d.1 ≤ 100)).length ∧ ¬ F4 g ∧ w.heap.size ≤ g ∧ g ≠ q) := by
          intro hpos
          obtain ⟨g, cap, rfl, hg0, hg, _, hcell, hfz⟩ := ownsRow_cells hown hpos
          refine ⟨g, cap, rfl, ⟨fun o ho => ?_, hfz⟩, hv4 g rfl, Nat.le_trans hW.bel.size hg0, fun e => by have := hW.lt; omega⟩
          exact ⟨_, hcell o _ (List.getElem?_eq_getElem (by simpa using ho))⟩
        obtain ⟨a4, c4, rfl⟩ := ownsRow_form hown
        clear hW hV hown hv4 HF
        generalize hxl : (m.filter fun d => decide (d.1 ≤ 100)).length = X at *
        generalize (m.filter fun d => !decide (d.1 ≤ 100)) = m' at *
        clear hxl
        have e1 : m'.filter (fun d => decide (d.1 ≤ 1000)) = m' := List.filter_eq_self.2 fun d hd => by simpa using (hall d hd).1
        have hX100 : X ≤ 100 := by omega
        have Hall := Lib.hid hall
        have Hsum := Lib.hid hsum
        have E1 := Lib.hid e1
        clear hall hsum e1
        have H4 := Lib.hid h4
        go_wp2_with fail
        refine HL.out.mono ?_
        rintro e w5 ⟨rfl, rfl⟩
        clear HL
        go_wp2_with fail
        go_loopw [9] (fun i wr => ∃ k : Nat, k ≤ X ∧ i = .int .i64 k ∧ PX w wr q p 200 F4 100 m' ∧ Hid (0 < X → ∃ g c, Value.slice a4 X c4 = .slice (some ⟨g, 0, none⟩) X c ∧ Wrt wr g X ∧ ¬ F4 g ∧ w.heap.size ≤ g ∧ g ≠ q)) (fun i _ => X - (intOf i).toNat)
        case atStart => exact ⟨0, Nat.zero_le _, rfl, H4.out, hx⟩
        case round =>
          clear h4 hx
          obtain ⟨k, hk, rfl, hWk, hx⟩ := hrel
          by_cases hkx : k < X
          · obtain ⟨g, c, he, hw, hFg, hgw, hgq⟩ := hx.out (by omega)
            simp only [Value.slice.injEq, true_and] at he
            obtain ⟨rfl, rfl⟩ := he
            obtain ⟨u0, cu0⟩ := hw.some k hkx
            have fz0 := hw.fz k
            have hw2 := Lib.hid (hw.set k (.int .i64 (-1)))
            have hfr : Fr (· = g) wr (wr.setCell ⟨g, k, none⟩ (.int .i64 (-1))) := (Fr.refl (· = g) _).setCell (p := ⟨g, _, none⟩) rfl _
            have hWk2 := Lib.hid (hWk.keep hfr (fun k hk e => hFg (by subst e; exact hk)) (fun e => hgq e.symm) (by rintro k rfl; exact hgw))
            have hkI : (k : Int) < (X : Int) := by omega
            clear hx hw hfr hWk
            go_wp2_with fail
            go_roundw
            case rel => exact ⟨k + 1, by omega, by go_num, hWk2.out, (by intro _; exact ⟨g, c4, rfl, hw2.out, hFg, hgw, hgq⟩)⟩
            case measure => simp [intOf]; omega
          · have hV := hWk.adv 1000 (by omega) (by omega)
            rw [E1.out] at hV
            have HV := Lib.hid hV
            have hml : m'.length ≤ 200 := by have := hWk.a.len; omega
            clear hV hWk hx
            go_wp2_with fail
            refine HV.out.mono ?_
            rintro e w6 ⟨v6, F6, rfl, hown6, h6, _, _, _⟩
            obtain ⟨a6, c6, rfl⟩ := ownsRow_form hown6
            have hb6 := h6.bel
            have hD : Hid (∀ j (h : j < m'.length), ∃ g, a6 = some ⟨g, 0, none⟩ ∧ w6.cell? ⟨g, j, none⟩ = some (.int .i64 m'[j].2)) := by
              intro j hj
              obtain ⟨g, cap, hv, _, _, _, hcell, _⟩ := ownsRow_cells hown6 (by omega)
              simp only [Value.slice.injEq] at hv
              exact ⟨g, hv.1, hcell j _ (by simp [intC, hj])⟩
            have hsI : (X : Int) + (m'.length : Int) = (j : Int) := by have := Hsum.out; omega
            have HsI := Lib.hid hsI
            clear hown6 h6 HV hsI
            go_wp2_with fail
            go_loop [12] (fun i => ∃ q : Nat, q ≤ m'.length ∧ i = .int .i64 q) (fun i => m'.length - (intOf i).toNat)
            case atStart => exact ⟨0, Nat.zero_le _, rfl⟩
            case round =>
              obtain ⟨y, hy, rfl⟩ := hrel
              by_cases hyl : y < m'.length
              · obtain ⟨g, rfl, hcell⟩ := hD.out y hyl
                have hge := (Hall.out m'[y] (List.getElem_mem hyl)).2
                generalize m'[y].2 = id at *
                have hyI : (y : Int) < (m'.length : Int) := by omega
                go_wp2_with fail
                go_round
                case rel => exact ⟨y + 1, by omega, by go_num⟩
                case measure => simp [intOf]; omega
              · have hsb : ((X : Int) + (m'.length : Int) == (j : Int)) = true := by simp [HsI.out]
                go_wp2_with fail
                go_ret
                exact ⟨rfl, hb6⟩
end Go.Proofs.Ythmbbbdnfgefbaa
