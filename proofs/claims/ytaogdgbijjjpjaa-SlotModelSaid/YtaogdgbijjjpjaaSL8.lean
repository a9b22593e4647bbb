/- SLOTS: same, few, awake. -/
import Derived.Test.YtaogdgbijjjpjaaSL7
namespace Go.Proofs.Ytaogdgbijjjpjaa
open Go.RowKit
set_option linter.unusedVariables false

set_option maxHeartbeats 1000000 in
theorem sameS_any (B : Nat) (a b : Option Addr) (n ca cb : Nat) (l : List Q) (w : World) (ha : QsIn B w a n l) (hb : QsIn B w b n l) (hB : B ≤ w.heap.size) (hn : n ≤ 9223372036854775807) :
    Calls Try.prog 36 #[.slice a n ca, .slice b n cb] w fun e w' => e = .returned (.bool true) ∧ Below w.heap.size w w' := by
  have hlen := ha.1
  go_enter Try.func36, Try.ntmps36
  go_wp2_with fail
  go_loopw [5] (fun i wr => ∃ k : Nat, k ≤ n ∧ i = .int .i64 k ∧ Below w.heap.size w wr) (fun i _ => n - (intOf i).toNat)
  case atStart => exact ⟨0, Nat.zero_le _, rfl, Below.refl _ _⟩
  case round =>
    obtain ⟨k, hk, rfl, hbl⟩ := hrel
    by_cases hlt : k < n
    · obtain ⟨b1, o1, rfl, hb1, hc1⟩ := (ha.keep (hbl.mono hB)).2 (by omega)
      obtain ⟨b2, o2, rfl, hb2, hc2⟩ := (hb.keep (hbl.mono hB)).2 (by omega)
      obtain ⟨x1, x2, x3, x4⟩ := hc1 k (by omega)
      obtain ⟨y1, y2, y3, y4⟩ := hc2 k (by omega)
      generalize l[k].1 = d0 at *
      generalize l[k].2.1 = d1 at *
      generalize l[k].2.2.1 = d2 at *
      generalize l[k].2.2.2 = d3 at *
      have Ha := Lib.hid ha
      have Hb := Lib.hid hb
      clear ha hb hc1 hc2
      have hkI : (k : Int) < (n : Int) := by omega
      go_wp2_with fail
      go_quiet (fail)
      go_wp2_with fail
      go_roundw
      case rel => exact ⟨k + 1, by omega, by go_num, hbl.trans ⟨rfl, rfl, rfl, Nat.le_refl _, fun _ _ => rfl⟩⟩
      case measure => simp [intOf]; omega
    · go_wp2_with fail
      go_ret
      exact ⟨rfl, hbl⟩

/-- The acts that come in: six numbers. -/
structure A6 (w : World) (b o : Nat) (x : Int × Int × Int × Int × Int × Int) : Prop where
  c0 : w.cell? ⟨b, o, none⟩ = some (.int .i64 x.1)
  c1 : w.cell? ⟨b, o + 1, none⟩ = some (.int .i64 x.2.1)
  c2 : w.cell? ⟨b, o + 2, none⟩ = some (.int .i64 x.2.2.1)
  c3 : w.cell? ⟨b, o + 3, none⟩ = some (.int .i64 x.2.2.2.1)
  c4 : w.cell? ⟨b, o + 4, none⟩ = some (.int .i64 x.2.2.2.2.1)
  c5 : w.cell? ⟨b, o + 5, none⟩ = some (.int .i64 x.2.2.2.2.2)
def A6In (B : Nat) (w : World) (a : Option Addr) (n : Nat) (xs : List (Int × Int × Int × Int × Int × Int)) : Prop :=
  xs.length = n ∧ (0 < n → ∃ b off, a = some ⟨b, off, none⟩ ∧ b < B ∧ ∀ j (h : j < xs.length), A6 w b (off + j * 6) xs[j])
theorem A6In.keep {w w' : World} {a : Option Addr} {n B : Nat} {xs : List (Int × Int × Int × Int × Int × Int)} (h : A6In B w a n xs) (hb : Below B w w') : A6In B w' a n xs :=
  ⟨h.1, fun hn => by
    obtain ⟨b, off, e, hlt, hc⟩ := h.2 hn
    exact ⟨b, off, e, hlt, fun j hj => ⟨(hb.cell (p := ⟨b, off + j * 6, none⟩) hlt).trans (hc j hj).c0, (hb.cell (p := ⟨b, off + j * 6 + 1, none⟩) hlt).trans (hc j hj).c1, (hb.cell (p := ⟨b, off + j * 6 + 2, none⟩) hlt).trans (hc j hj).c2, (hb.cell (p := ⟨b, off + j * 6 + 3, none⟩) hlt).trans (hc j hj).c3, (hb.cell (p := ⟨b, off + j * 6 + 4, none⟩) hlt).trans (hc j hj).c4, (hb.cell (p := ⟨b, off + j * 6 + 5, none⟩) hlt).trans (hc j hj).c5⟩⟩⟩

set_option maxHeartbeats 4000000 in
set_option maxRecDepth 100000 in
theorem few_any (B : Nat) (a : Option Addr) (n c : Nat) (l : List (Int × Int × Int × Int × Int × Int)) (w : World) (hl : A6In B w a n l) (hB : B ≤ w.heap.size) (hn : n ≤ 9223372036854775807) :
    Calls Try.prog 30 #[.slice a n c] w fun e w' => (∃ b : Bool, e = .returned (.bool b) ∧ (b = true → n ≤ 40)) ∧ Below w.heap.size w w' := by
  have hlen := hl.1
  have HLL := Lib.hid hl
  clear hl
  go_enter Try.func30, Try.ntmps30
  go_wp2_with fail
  go_loopw [3] (fun i wr => ∃ k : Nat, k ≤ n ∧ i = .int .i64 k ∧ Below w.heap.size w wr) (fun i _ => n - (intOf i).toNat)
  case atStart => exact ⟨0, Nat.zero_le _, rfl, Below.refl _ _⟩
  case round =>
    obtain ⟨k, hk, rfl, hb⟩ := hrel
    by_cases hlt : k < n
    · obtain ⟨b, off, rfl, hbB, hcc⟩ := (HLL.out.keep (hb.mono hB)).2 (by omega)
      have c4 := (hcc k (by omega)).c4
      have c5 := (hcc k (by omega)).c5
      generalize (l[k]'(by omega)).2.2.2.2.1 = f at *
      generalize (l[k]'(by omega)).2.2.2.2.2 = t at *
      have hkI : (k : Int) < (n : Int) := by omega
      clear hcc
      by_cases d1 : 0 ≤ f
      · by_cases d2 : t ≤ 1099511627776
        · by_cases d3 : f ≤ t
          · have hw : IntKind.i64.wrap (t - f) = t - f := IntWalk.i64_in _ (by omega)
            by_cases d4 : 2000 < t - f
            · as_aux_lemma =>
              go_wp2_with fail
              go_quiet (fail)
              go_wp2_with fail
              go_ret
              exact ⟨⟨false, rfl, fun h => by cases h⟩, bel_drewN hb _⟩
            · as_aux_lemma =>
              go_wp2_with fail
              go_quiet (fail)
              go_wp2_with fail
              go_roundw
              case rel => exact ⟨k + 1, by omega, by go_num, bel_drewN hb _⟩
              case measure => simp [intOf]; omega
          · as_aux_lemma =>
            have e3 : decide (f ≤ t) = false := decide_eq_false d3
            go_wp2_with fail
            go_quiet (fail)
            go_wp2_with fail
            go_roundw
            case rel => exact ⟨k + 1, by omega, by go_num, bel_drewN hb _⟩
            case measure => simp [intOf]; omega
        · as_aux_lemma =>
          have e2 : decide (t ≤ 1099511627776) = false := decide_eq_false d2
          go_wp2_with fail
          go_quiet (fail)
          go_wp2_with fail
          go_roundw
          case rel => exact ⟨k + 1, by omega, by go_num, bel_drewN hb _⟩
          case measure => simp [intOf]; omega
      · as_aux_lemma =>
        have e1 : decide (0 ≤ f) = false := decide_eq_false d1
        go_wp2_with fail
        go_quiet (fail)
        go_wp2_with fail
        go_roundw
        case rel => exact ⟨k + 1, by omega, by go_num, bel_drewN hb _⟩
        case measure => simp [intOf]; omega
    · go_wp2_with fail
      go_ret
      exact ⟨⟨_, rfl, fun h => by simp at h; omega⟩, hb⟩

theorem sr1 : resM 5 [] 1 1 3 0 10 = (7, 0, [(1, 1, 7, 10)]) := by decide +kernel
theorem sr2 : resM 5 [(1, 1, 7, 10)] 2 1 3 0 10 = (4, 0, [(1, 1, 7, 10), (2, 1, 4, 7)]) :=
  resM_ok (p := 4) (by omega) (by decide) (by decide) (latM_is (by decide) (by decide) (by decide))
theorem sr3 : resM 5 [(1, 1, 7, 10), (2, 1, 4, 7)] 3 2 3 0 10 = (7, 0, [(1, 1, 7, 10), (2, 1, 4, 7), (3, 2, 7, 10)]) :=
  resM_ok (p := 7) (by omega) (by decide) (by decide) (latM_is (by decide) (by decide) (by decide))
theorem sr4 : resM 5 [(1, 1, 7, 10), (2, 1, 4, 7), (3, 2, 7, 10)] 3 2 3 0 10 = (0, 7, [(1, 1, 7, 10), (2, 1, 4, 7), (3, 2, 7, 10)]) := by decide +kernel
theorem sr5 : resM 5 [(1, 1, 7, 10), (2, 1, 4, 7), (3, 2, 7, 10)] 4 1 5 0 10 = (0, 4, [(1, 1, 7, 10), (2, 1, 4, 7), (3, 2, 7, 10)]) :=
  resM_none (p := 0) (by omega) (by decide) (by decide) (latM_not (by decide))

set_option maxHeartbeats 4000000 in
set_option maxRecDepth 100000 in
theorem sawake_any (w : World) : Calls Try.prog 29 #[] w fun e w' => e = .returned (.bool true) ∧ Below w.heap.size w w' := by
  go_enter Try.func29, Try.ntmps29
  go_wp2_with fail
  refine (SO.new (w0 := w) (Below.refl _ _) 5 (by omega) (by omega)).mono ?_
  rintro e w1 ⟨p, F1, rfl, h1, _, _⟩
  go_wp2_with fail
  refine (h1.reserve sr1).mono ?_
  rintro e w2 ⟨rfl, F2, h2, _, _⟩
  go_wp2_with fail
  refine (h2.reserve sr2).mono ?_
  rintro e w3 ⟨rfl, F3, h3, _, _⟩
  go_wp2_with fail
  refine (h3.reserve sr3).mono ?_
  rintro e w4 ⟨rfl, F4, h4, _, _⟩
  go_wp2_with fail
  refine (h4.reserve sr4).mono ?_
  rintro e w5 ⟨rfl, F5, h5, _, _⟩
  go_wp2_with fail
  refine (h5.reserve sr5).mono ?_
  rintro e w6 ⟨rfl, F6, h6, _, _⟩
  have D : Hid (Calls Try.prog 39 #[.pointer (some ⟨p, 0, none⟩), .int .i64 8] w6 fun e w' => e = .returned (.int .i64 2) ∧ Below w6.heap.size w6 w') := h6.depth 8
  have H6 := Lib.hid h6
  clear h1 h2 h3 h4 h5 h6
  go_wp2_with fail
  refine D.out.mono ?_
  rintro e w7 ⟨rfl, hb7⟩
  have h7 := H6.out.below hb7
  have A : Hid (Calls Try.prog 38 #[.pointer (some ⟨p, 0, none⟩), .int .i64 5] w7 fun e w' => ∃ (a : Option Addr) (c : Nat), e = .returned (.slice a 1 c) ∧ Below w7.heap.size w7 w') := (h7.at_ 5).mono fun e w' ⟨a, c, l', he, hp, _, _, hb⟩ => ⟨a, c, by rw [he, (hp.filter fun x => !atOut 5 x).length_eq]; rfl, hb⟩
  have H7 := Lib.hid h7
  clear h7 hb7 D H6
  go_wp2_with fail
  refine A.out.mono ?_
  rintro e w8 ⟨a8, c8, rfl, hb8⟩
  have h8 := H7.out.below hb8
  have L : Hid (Calls Try.prog 37 #[.pointer (some ⟨p, 0, none⟩)] w8 fun e w' => ∃ (a : Option Addr) (c : Nat), e = .returned (.slice a 3 c) ∧ Below w8.heap.size w8 w') := h8.all.mono fun e w' ⟨a, c, l', he, hp, _, _, hb⟩ => ⟨a, c, by rw [he, hp.length_eq]; rfl, hb⟩
  have H8 := Lib.hid h8
  clear h8 hb8 A H7
  go_wp2_with fail
  refine L.out.mono ?_
  rintro e w9 ⟨a9, c9, rfl, hb9⟩
  have h9 := H8.out.below hb9
  have R : Hid (Calls Try.prog 32 #[.pointer (some ⟨p, 0, none⟩), .int .i64 9] w9 fun e w' => e = .returned (.int .i64 4) ∧ Below w.heap.size w w') := (h9.free 9).mono fun e w' ⟨he, hS, _⟩ => ⟨he, hS.bel⟩
  clear h9 hb9 L H8
  go_wp2_with fail
  refine R.out.mono ?_
  rintro e w10 ⟨rfl, hb10⟩
  go_wp2_with fail
  go_ret
  exact ⟨rfl, hb10⟩
end Go.Proofs.Ytaogdgbijjjpjaa
