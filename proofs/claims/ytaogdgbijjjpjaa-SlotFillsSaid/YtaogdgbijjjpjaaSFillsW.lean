/- SlotFills: the walk. -/
import Derived.Test.YtaogdgbijjjpjaaSL8
import Derived.Test.YtaogdgbijjjpjaaSFP
namespace Go.Proofs.Ytaogdgbijjjpjaa
open Go.RowKit
set_option linter.unusedVariables false

set_option maxHeartbeats 8000000 in
set_option maxRecDepth 100000 in
theorem sfills_walk (L wd a : Int) (w : World) (r1 : (Lit.int .u8 L).wf = true) (r2 : (Lit.int .u8 wd).wf = true) (r3 : (Lit.int .u16 a).wf = true) :
    Calls Try.prog 12 #[.int .u8 L, .int .u8 wd, .int .u16 a] w fun e w' => e = .returned (.bool true) ∧ Below w.heap.size w w' := by
  have hL : 0 ≤ L ∧ L ≤ 255 := by
    simp [Lit.wf] at r1
    have e1 : IntKind.u8.min = 0 := rfl
    have e2 : IntKind.u8.max = 255 := rfl
    omega
  have hw : 0 ≤ wd ∧ wd ≤ 255 := by
    simp [Lit.wf] at r2
    have e1 : IntKind.u8.min = 0 := rfl
    have e2 : IntKind.u8.max = 255 := rfl
    omega
  have ha : 0 ≤ a ∧ a ≤ 65535 := by
    simp [Lit.wf] at r3
    have e1 : IntKind.u16.min = 0 := rfl
    have e2 : IntKind.u16.max = 65535 := rfl
    omega
  obtain ⟨L0, L1⟩ := hL
  obtain ⟨w0, w1⟩ := hw
  obtain ⟨a0, a1⟩ := ha
  clear r1 r2 r3
  obtain ⟨n, hn⟩ : ∃ n, 1 + L % 20 = n := ⟨_, rfl⟩
  have hn1 : 1 ≤ n := by omega
  have hn2 : n ≤ 20 := by omega
  obtain ⟨k, hk⟩ : ∃ k : Nat, wd / n = (k : Int) := ⟨(wd / n).toNat, by have := Int.ediv_nonneg w0 (by omega : 0 ≤ n); omega⟩
  have hkl : (k : Int) * n ≤ wd := by rw [← hk]; exact Int.ediv_mul_le wd (by omega)
  have hkg : wd < ((k : Int) + 1) * n := by rw [← hk]; exact Int.lt_ediv_add_one_mul_self wd (by omega)
  have hk1 : k ≤ 255 := by
    have := mul_le (Nat.le_refl k) hn1
    have : (k : Int) * 1 ≤ (k : Int) * n := Int.mul_le_mul_of_nonneg_left hn1 (by omega)
    omega
  have HFt : Hid (Ft a wd n) := ⟨hn1, hn2, w0, w1, a0, a1⟩
  have HKl := Lib.hid hkl
  have HKg := Lib.hid hkg
  have ht : L.tmod 20 = L % 20 := Int.tmod_eq_emod_of_nonneg L0
  have hd : wd.tdiv n = wd / n := Int.tdiv_eq_ediv_of_nonneg w0
  have hnz : n ≠ 0 := by omega
  have hmod : 0 ≤ L % 20 ∧ L % 20 ≤ 19 := by omega
  have hm1 : IntKind.u8.wrap (L % 20) = L % 20 := by rw [IntKind.wrap_u8]; omega
  have hkw : IntKind.i64.wrap (k : Int) = (k : Int) := IntWalk.i64_in _ (by omega)
  have hs1 : IntKind.i64.wrap (a + wd) = a + wd := IntWalk.i64_in _ (by omega)
  clear hkl hkg
  go_enter Try.func12, Try.ntmps12
  go_wp2_with fail
  refine (SO.new (w0 := w) (Below.refl _ _) 256 (by omega) (by omega)).mono ?_
  rintro e w1' ⟨p, F1, rfl, h1, _, _⟩
  have H1 := Lib.hid h1
  clear h1
  go_wp2_with fail
  refine (sawake_any _).mono ?_
  rintro e w2 ⟨rfl, hb2⟩
  have h2 := H1.out.below hb2
  clear hb2 H1
  go_wp2_with fail
  go_loopw [13] (fun si wr => ∃ (i : Nat) (F : Nat → Prop), i ≤ k ∧ si = .int .i64 i ∧ SO w wr p 256 F (fl a wd n i)) (fun si _ => k - (intOf si).toNat)
  case atStart => exact ⟨0, F1, Nat.zero_le _, rfl, h2⟩
  case round =>
    clear h2
    obtain ⟨i, F, hi, rfl, hW⟩ := hrel
    by_cases hik : i < k
    · have hle : ((i : Int) + 1) * n ≤ wd := by
        have := mul_le (show i + 1 ≤ k by omega) hn1
        push_cast at this
        have := HKl.out
        omega
      have hst := fl_step HFt.out (i := i) (by omega) hle
      have hge : 0 ≤ ((i : Int) + 1) * n := Int.mul_nonneg (by omega) (by omega)
      obtain ⟨P, hP⟩ : ∃ P, ((i : Int) + 1) * n = P := ⟨_, rfl⟩
      rw [hP] at hst hle hge
      have hA := Lib.hid (hW.reserve hst)
      have hPw : IntKind.i64.wrap P = P := IntWalk.i64_in _ (by omega)
      have hiw : IntKind.i64.wrap ((i : Int) + 1) = (i : Int) + 1 := IntWalk.i64_in _ (by omega)
      have hsw : IntKind.i64.wrap (a + wd - P) = a + wd - P := IntWalk.i64_in _ (by omega)
      have hikI : (i : Int) < (k : Int) := by omega
      clear hW hst
      go_wp2_with fail
      refine hA.out.mono ?_
      rintro e w4 ⟨rfl, F4, h4, _, _⟩
      have H4 := Lib.hid h4
      clear h4 hA
      go_wp2_with fail
      go_roundw
      case rel => exact ⟨i + 1, F4, by omega, by go_num, H4.out⟩
      case measure => simp [intOf]; omega
    · obtain rfl : i = k := by omega
      have hA := Lib.hid (hW.reserve (fl_full HFt.out hk1 HKg.out))
      clear hW
      go_wp2_with fail
      refine hA.out.mono ?_
      rintro e w4 ⟨rfl, F4, h4, _, _⟩
      by_cases hi0 : i = 0
      · subst hi0
        have hlt : wd < n := by have := HKg.out; simp at this; omega
        have hB := Lib.hid (h4.reserve (l' := []) (x := 0) (y := 4) (fl_zero HFt.out hlt))
        clear h4 hA
        go_wp2_with fail
        refine hB.out.mono ?_
        rintro e w5 ⟨rfl, F5, h5, _, _⟩
        have hC : Hid (Calls Try.prog 37 #[.pointer (some ⟨p, 0, none⟩)] w5 fun e w' => ∃ (a : Option Addr) (c : Nat), e = .returned (.slice a 0 c) ∧ Below w.heap.size w w') := h5.all.mono fun e w' ⟨a, c, l', he, hp, _, _, hb⟩ => ⟨a, c, by rw [he, hp.length_eq]; rfl, h5.bel.trans (hb.mono h5.bel.size)⟩
        clear h5 hB
        go_wp2_with fail
        refine hC.out.mono ?_
        rintro e w6 ⟨a6, c6, rfl, hb6⟩
        go_wp2_with fail
        go_ret
        exact ⟨rfl, hb6⟩
      · have hnw : n ≤ wd := by
          have := mul_le (show 1 ≤ i by omega) hn1
          have := HKl.out
          simp at *
          omega
        have hB := Lib.hid (h4.reserve (fl_other HFt.out hk1 hnw))
        have hsn : IntKind.i64.wrap (a + wd - n) = a + wd - n := IntWalk.i64_in _ (by omega)
        have hi1 : IntKind.i64.wrap ((i : Int) + 1) = (i : Int) + 1 := IntWalk.i64_in _ (by omega)
        have hi2 : (0 : Int) < (i : Int) := by omega
        have hi3 : ((i : Int) == 0) = false := by simp; omega
        clear h4 hA
        go_wp2_with fail
        refine hB.out.mono ?_
        rintro e w5 ⟨rfl, F5, h5, _, _⟩
        have hD := h5.depth (a + wd - n)
        rw [fl_depth HFt.out (by omega)] at hD
        have HD := Lib.hid hD
        have H5 := Lib.hid h5
        clear h5 hB hD
        go_wp2_with fail
        refine HD.out.mono ?_
        rintro e w6 ⟨rfl, hb6⟩
        have h6 := H5.out.below hb6
        have hC : Hid (Calls Try.prog 37 #[.pointer (some ⟨p, 0, none⟩)] w6 fun e w' => ∃ (a : Option Addr) (c : Nat), e = .returned (.slice a (i + 1) c) ∧ Below w.heap.size w w') := h6.all.mono fun e w' ⟨a, c, l', he, hp, _, _, hb⟩ => ⟨a, c, by rw [he, hp.length_eq, List.length_append, fl_len]; rfl, h6.bel.trans (hb.mono h6.bel.size)⟩
        clear h6 hb6 HD H5
        go_wp2_with fail
        refine hC.out.mono ?_
        rintro e w7 ⟨a7, c7, rfl, hb7⟩
        go_wp2_with fail
        go_ret
        exact ⟨rfl, hb7⟩
end Go.Proofs.Ytaogdgbijjjpjaa
