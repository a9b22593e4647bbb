/- A part of the walk: Pu1 Pu2 Rg. -/
import Derived.Test.YtnoahekcemfmcaaGreatDoorQ03
import Derived.IntWalk
import Derived.Deep.MidRow
namespace Go.Proofs.YtnoahekcemfmcaaGreatDoor
set_option linter.unusedVariables false
set_option linter.unusedSimpArgs false
section
open Go.RowKit
attribute [local go_sem ↓] Go.wp_at_zero Go.wp_at_succ
def tkv (t : Tk) : Value := .agg #[.string t.nm, .int .i64 t.T, .int .i64 t.D, .int .i64 t.C, .int .i64 t.A, .int .i64 t.Seg, .int .i64 t.Cost, .int .i64 t.M, .int .i64 t.K, .int .i64 t.Mode, .int .i64 t.Prio]
theorem w64 {a : Int} (h1 : -9223372036854775808 ≤ a) (h2 : a ≤ 9223372036854775807) : wrap64 a = a := by unfold wrap64; omega
set_option maxHeartbeats 400000 in
theorem mul_any (a b : Int) (w : World) (ha : 0 ≤ a) (hb : 0 ≤ b) (h1 : a ≤ 2147483648) (h2 : b ≤ 2147483648) :
  Calls Tryz.prog 116 #[.int .i64 a, .int .i64 b] w fun e w' => e = .returned (.tuple #[.int .i64 (a * b), .bool true]) ∧ w = w' := by
 have h3 : a * b ≤ 2147483648 * 2147483648 := Int.mul_le_mul h1 h2 hb (by omega)
 have h4 : 0 ≤ a * b := Int.mul_nonneg ha hb
 have h5 : 0 < b → a ≤ 4611686018427387904 / b := fun hb0 => (Int.le_ediv_iff_mul_le hb0).2 (by omega)
 have hw : wrap64 (a * b) = a * b := w64 (by omega) (by omega)
 have H5 := Lib.hid h5
 have Hw := Lib.hid hw
 clear h3 h4 h5 hw
 by_cases hb0 : 0 < b
 ·have h6 := H5.out hb0
  go_enter Tryz.func116, Tryz.ntmps116
  go_wp2_with (go_at_call 141; refine (time_any _ _).mono ?_; rintro e w' ⟨rfl, rfl⟩)
  all_goals (go_ret2; exact ⟨by simp [Hw.out], rfl⟩)
 ·go_enter Tryz.func116, Tryz.ntmps116
  go_wp2_with (go_at_call 141; refine (time_any _ _).mono ?_; rintro e w' ⟨rfl, rfl⟩)
  all_goals (go_ret2; exact ⟨by simp [Hw.out], rfl⟩)
theorem ceil_eq {a b : Int} (hb : 1 ≤ b) : (if a / b * b < a then a / b + 1 else a / b) = ceilI a b := by
 unfold ceilI
 have h1 := Int.emod_add_mul_ediv a b
 have h2 := Int.emod_nonneg a (b := b) (by omega)
 have h3 := Int.emod_lt_of_pos a (b := b) (by omega)
 have h4 : a / b * b = b * (a / b) := Int.mul_comm _ _
 rw [h4]
 split
 ·rename_i h
  have h5 : 1 ≤ a % b := by omega
  have e : a + b - 1 = (a % b - 1) + b * (a / b + 1) := by rw [Int.mul_add, Int.mul_one]; omega
  have z : (a % b - 1) / b = 0 := Int.ediv_eq_zero_of_lt (by omega) (by omega)
  rw [e, Int.add_mul_ediv_left _ _ (by omega : b ≠ 0), z]; omega
 ·rename_i h
  have e : a + b - 1 = (b - 1) + b * (a / b) := by omega
  have z : (b - 1) / b = 0 := Int.ediv_eq_zero_of_lt (by omega) (by omega)
  rw [e, Int.add_mul_ediv_left _ _ (by omega : b ≠ 0), z]; omega
set_option maxHeartbeats 400000 in
theorem ceil_any (a b : Int) (w : World) (ha : 0 ≤ a) (hb : 1 ≤ b) (h1 : a ≤ 2147483648) (h2 : b ≤ 2147483648) :
  Calls Tryz.prog 119 #[.int .i64 a, .int .i64 b] w fun e w' => e = .returned (.tuple #[.int .i64 (ceilI a b), .bool true]) ∧ w = w' := by
 have h3 : a / b * b ≤ a := Int.ediv_mul_le a (by omega)
 have h4 : 0 ≤ a / b := Int.ediv_nonneg ha (by omega)
 have h5 : a / b ≤ a := by
  have := Int.ediv_le_self b ha
  exact this
 have h6 : 0 ≤ a / b * b := Int.mul_nonneg h4 (by omega)
 have hw : wrap64 (a / b * b) = a / b * b := w64 (by omega) (by omega)
 have HE := Lib.hid (ceil_eq (a := a) hb)
 have hb0 : (b == 0) = false := by simp; omega
 have hbz : b ≠ 0 := by omega
 clear h6
 by_cases hc : a / b * b < a
 ·rw [if_pos hc] at HE
  go_enter Tryz.func119, Tryz.ntmps119
  go_wp2_with (go_at_call 141; refine (time_any _ _).mono ?_; rintro e w' ⟨rfl, rfl⟩)
  all_goals (go_ret2; exact ⟨by simp [HE.out], rfl⟩)
 ·rw [if_neg hc] at HE
  go_enter Tryz.func119, Tryz.ntmps119
  go_wp2_with (go_at_call 141; refine (time_any _ _).mono ?_; rintro e w' ⟨rfl, rfl⟩)
  all_goals (go_ret2; exact ⟨by simp [HE.out], rfl⟩)
set_option maxHeartbeats 400000 in
theorem extra_any (t : Tk) (ht : t.Ok) (w : World) :
  Calls Tryz.prog 164 #[tkv t] w fun e w' => e = .returned (.int .i64 (extraT t)) ∧ Below w.heap.size w w' := by
 unfold tkv extraT
 have h0 := ht.k0
 have h1 := ht.k1
 have h2 := ht.cd
 have h3 := ht.dt
 have h4 := ht.tm
 by_cases hm : t.Mode = 1
 ·rw [if_pos hm]
  obtain ⟨h5, h6, _⟩ := ht.r1 hm
  go_enter Tryz.func164, Tryz.ntmps164
  go_wp2
  go_ret
  exact ⟨rfl, bel_alloc (Below.refl _ _) _⟩
 ·rw [if_neg hm]
  obtain ⟨h5, h6, _⟩ := ht.r2 hm
  have hmb : (t.Mode == 1) = false := by simpa using hm
  go_enter Tryz.func164, Tryz.ntmps164
  go_wp2
  go_ret
  exact ⟨rfl, bel_alloc (Below.refl _ _) _⟩
set_option maxHeartbeats 400000 in
theorem whole_any (t : Tk) (ht : t.Ok) (w : World) :
  Calls Tryz.prog 113 #[tkv t] w fun e w' => e = .returned (.int .i64 (wholeT t)) ∧ Below w.heap.size w w' := by
 unfold tkv wholeT
 have h0 := ht.k0
 have h1 := ht.k1
 have hc := ht.c1
 have h2 := ht.cd
 have h3 := ht.dt
 have h4 := ht.tm
 by_cases hm : t.Mode = 1
 ·rw [if_pos hm]
  obtain ⟨h5, h6, h7⟩ := ht.r1 hm
  have hq : 0 ≤ (t.C + t.Seg - 1) / t.Seg ∧ (t.C + t.Seg - 1) / t.Seg ≤ t.C := by
   refine ⟨Int.ediv_nonneg (by omega) (by omega), ?_⟩
   have : (t.C + t.Seg - 1) / t.Seg < t.C + 1 := (Int.ediv_lt_iff_lt_mul (by omega)).2 (by
    have : 0 ≤ (t.C) * (t.Seg - 1) := Int.mul_nonneg (by omega) (by omega)
    rw [Int.mul_sub, Int.mul_one] at this
    rw [Int.add_mul, Int.one_mul]
    omega)
   omega
  have hp1 : 0 ≤ (t.C + t.Seg - 1) / t.Seg * t.Cost := Int.mul_nonneg hq.1 h0
  have hp2 : (t.C + t.Seg - 1) / t.Seg * t.Cost ≤ 1048576 * 1000 := Int.mul_le_mul (by omega) h1 h0 (by omega)
  have HC := Lib.hid fun W => ceil_any t.C t.Seg W (by omega) h5 (by omega) (by omega)
  unfold ceilI at HC
  clear ht h7
  generalize (t.C + t.Seg - 1) / t.Seg = q at *
  have hw : wrap64 (q * t.Cost) = q * t.Cost := w64 (by omega) (by omega)
  have hw2 : wrap64 (t.C + q * t.Cost) = t.C + q * t.Cost := w64 (by omega) (by omega)
  generalize hqc : q * t.Cost = qc at *
  have HQ := Lib.hid hqc
  clear hqc
  go_enter Tryz.func113, Tryz.ntmps113
  go_wp2_with (go_at_call 119; refine (HC.out _).mono ?_; rintro e w' ⟨rfl, rfl⟩)
  go_ret
  exact ⟨by simp [HQ.out, hw, hw2], bel_alloc (Below.refl _ _) _⟩
 ·rw [if_neg hm]
  have hmb : (t.Mode == 1) = false := by simpa using hm
  go_enter Tryz.func113, Tryz.ntmps113
  go_wp2
  go_ret
  exact ⟨rfl, bel_alloc (Below.refl _ _) _⟩
set_option maxHeartbeats 800000 in
theorem cut_any (t : Tk) (d : Int) (w : World) :
  Calls Tryz.prog 99 #[tkv t, .int .i64 d] w fun e w' => e = .returned (.tuple #[.int .i64 (cut t d), .bool (decide (t.C < d))]) ∧ Below w.heap.size w w' := by
 unfold tkv cut
 have hb := bel_alloc (Below.refl w.heap.size w) (.cells #[.string t.nm, .int .i64 t.T, .int .i64 t.D, .int .i64 t.C, .int .i64 t.A, .int .i64 t.Seg, .int .i64 t.Cost, .int .i64 t.M, .int .i64 t.K, .int .i64 t.Mode, .int .i64 t.Prio] 41)
 have hc := cell_newb w #[.string t.nm, .int .i64 t.T, .int .i64 t.D, .int .i64 t.C, .int .i64 t.A, .int .i64 t.Seg, .int .i64 t.Cost, .int .i64 t.M, .int .i64 t.K, .int .i64 t.Mode, .int .i64 t.Prio] 41 _ 3 _ rfl rfl
 go_enter Tryz.func99, Tryz.ntmps99
 go_wp2_with fail
 generalize w.alloc (.cells #[.string t.nm, .int .i64 t.T, .int .i64 t.D, .int .i64 t.C, .int .i64 t.A, .int .i64 t.Seg, .int .i64 t.Cost, .int .i64 t.M, .int .i64 t.K, .int .i64 t.Mode, .int .i64 t.Prio] 41) = w1 at *
 go_quiet (fail)
 go_wp2_with fail
 all_goals
  go_ret2
  refine ⟨?_, bel_drewN hb _⟩
  have e1 : ∀ x y : Int, x = y → Ending.returned (.tuple #[.int .i64 x, .bool (decide (t.C < d))]) = .returned (.tuple #[.int .i64 y, .bool (decide (t.C < d))]) := fun x y e => by rw [e]
  refine e1 _ _ ?_
  (try simp only [Int.lt_irrefl, Int.not_lt] at *)
  (repeat' split) <;> omega
end
section
open Go.RowKit
attribute [local go_sem ↓] Go.wp_at_zero Go.wp_at_succ
theorem Tryz.info3 : (Tryz.prog.info? 3).map (fun i => (i.zero, i.size, i.bytes)) = some (some (.int .i64 0), 1, 8) := by kernel_rfl
def ic (x : Int) : Value := .int .i64 x
theorem ints_of_own {w : World} {base n : Nat} {a : Option Addr} {cap : Nat} {l : List Int} (h : w.ownsRow base 3 1 (.slice a n cap) l.length (l.map ic)) (hn : n = l.length) : IntsIn w.heap.size w a n l := by
 refine ⟨hn.symm, fun h0 => ?_⟩
 obtain ⟨g, cap', hv, _, hlt, _, hc, _⟩ := ownsRow_cells h (by omega)
 simp at hv
 obtain ⟨rfl, _⟩ := hv
 refine ⟨g, 0, rfl, hlt, fun j hj => ?_⟩
 rw [Nat.zero_add]
 exact hc j _ (by simp [hj, ic])
def partsT (t : Tk) (d : Int) : List Int := (List.range (np t d).toNat).map fun p : Nat => plen t d (p : Int)
theorem partsT_length (t : Tk) (d : Int) : (partsT t d).length = (np t d).toNat := by simp [partsT]
theorem partsT_at (t : Tk) (d : Int) (p : Nat) (h : p < (partsT t d).length) : (partsT t d)[p] = plen t d p := by simp [partsT]
theorem np_le {t : Tk} {d : Int} (ht : t.Ok) (h1 : 1 ≤ d) : np t d ≤ d := by
 unfold np
 split
 ·rename_i hm
  have hs := (ht.r1 hm).1
  have : (d + t.Seg - 1) / t.Seg < d + 1 := (Int.ediv_lt_iff_lt_mul (by omega)).2 (by
   have : 0 ≤ d * (t.Seg - 1) := Int.mul_nonneg (by omega) (by omega)
   rw [Int.mul_sub, Int.mul_one] at this
   rw [Int.add_mul, Int.one_mul]
   omega)
  omega
 ·omega
set_option maxHeartbeats 1000000 in
set_option maxRecDepth 20000 in
theorem parts_any (t : Tk) (ht : t.Ok) (d : Int) (w : World) (h1 : 1 ≤ d) (h2 : d ≤ t.C) :
  Calls Tryz.prog 144 #[tkv t, .int .i64 d] w fun e w' => ∃ (a : Option Addr) (c : Nat), e = .returned (.slice a (partsT t d).length c) ∧ IntsIn w'.heap.size w' a (partsT t d).length (partsT t d) ∧ Below w.heap.size w w' := by
 have h0 := ht.k0
 have h01 := ht.k1
 have h3 := ht.cd
 have h4 := ht.dt
 have h5 := ht.tm
 have hnp := np_pos ht h1
 have hnl := np_le ht h1
 have hdb : decide (d < 1) = false := decide_eq_false (by omega)
 have hdc : decide (t.C < d) = false := decide_eq_false (by omega)
 obtain ⟨i0, ki, kz0, kz1, kz2⟩ := info_parts Tryz.info3
 by_cases hm : t.Mode = 1
 ·obtain ⟨h6, h7, h8⟩ := ht.r1 hm
  have HP : Hid (∀ k : Nat, (k : Int) < np t d → (k : Int) * t.Seg < d ∧ (partsT t d).take (k + 1) = (partsT t d).take k ++ [min (d - (k : Int) * t.Seg) t.Seg + t.Cost]) := fun k hk => by
   refine ⟨part_lt ht hm hk, ?_⟩
   rw [List.take_succ_eq_append_getElem (by rw [partsT_length]; omega), partsT_at]
   unfold plen; rw [if_pos hm]
  have HE : Hid (∀ k : Nat, np t d ≤ (k : Int) → d ≤ (k : Int) * t.Seg) := fun k hk => part_ge ht hm hk
  have hpl := partsT_length t d
  have hmb : (t.Mode == 1) = true := by simpa using hm
  have hc5 := cell_newb w #[.string t.nm, .int .i64 t.T, .int .i64 t.D, .int .i64 t.C, .int .i64 t.A, .int .i64 t.Seg, .int .i64 t.Cost, .int .i64 t.M, .int .i64 t.K, .int .i64 t.Mode, .int .i64 t.Prio] 41 _ 5 _ rfl rfl
  have hc6 := cell_newb w #[.string t.nm, .int .i64 t.T, .int .i64 t.D, .int .i64 t.C, .int .i64 t.A, .int .i64 t.Seg, .int .i64 t.Cost, .int .i64 t.M, .int .i64 t.K, .int .i64 t.Mode, .int .i64 t.Prio] 41 _ 6 _ rfl rfl
  have hbw := bel_alloc (Below.refl w.heap.size w) (.cells #[.string t.nm, .int .i64 t.T, .int .i64 t.D, .int .i64 t.C, .int .i64 t.A, .int .i64 t.Seg, .int .i64 t.Cost, .int .i64 t.M, .int .i64 t.K, .int .i64 t.Mode, .int .i64 t.Prio] 41)
  have hwl : w.heap.size < (w.alloc (.cells #[.string t.nm, .int .i64 t.T, .int .i64 t.D, .int .i64 t.C, .int .i64 t.A, .int .i64 t.Seg, .int .i64 t.Cost, .int .i64 t.M, .int .i64 t.K, .int .i64 t.Mode, .int .i64 t.Prio] 41)).heap.size := by simp
  clear hm h8
  unfold tkv
  go_enter Tryz.func144, Tryz.ntmps144
  go_wp2_with fail
  generalize w.alloc (.cells #[.string t.nm, .int .i64 t.T, .int .i64 t.D, .int .i64 t.C, .int .i64 t.A, .int .i64 t.Seg, .int .i64 t.Cost, .int .i64 t.M, .int .i64 t.K, .int .i64 t.Mode, .int .i64 t.Prio] 41) = w1 at *
  have hb0 : Below w1.heap.size w1 w1 := Below.refl _ _
  go_loopw [1, 5] (fun sd so wx => ∃ k : Nat, (k : Int) ≤ np t d ∧ sd = .int .i64 (d - (k : Int) * t.Seg) ∧ Hid (wx.ownsRow w1.heap.size 3 1 so k (((partsT t d).take k).map ic)) ∧ Below w1.heap.size w1 wx ∧ 0 ≤ (k : Int) * t.Seg) (fun sd _ _ => (intOf sd).toNat)
  case atStart => exact ⟨0, by omega, by simp, World.ownsRow_nil _ _ _ _, hb0, by simp⟩
  case round =>
   clear hb0
   obtain ⟨k, hk, rfl, HO, hb, hk0⟩ := hrel
   by_cases hlt : (k : Int) < np t d
   ·obtain ⟨h9, h10⟩ := HP.out k hlt
    have H10 := Lib.hid h10
    have hks : ((k + 1 : Nat) : Int) * t.Seg = (k : Int) * t.Seg + t.Seg := by rw [Int.natCast_succ, Int.add_mul, Int.one_mul]
    have HKS := Lib.hid hks
    have hgt : decide (d - (k : Int) * t.Seg > 0) = true := decide_eq_true (by omega)
    have hc5' := (hb.cell (p := ⟨w.heap.size, 5, none⟩) hwl).trans hc5
    have hc6' := (hb.cell (p := ⟨w.heap.size, 6, none⟩) hwl).trans hc6
    obtain ⟨a9, c9, rfl⟩ := ownsRow_form HO.out
    have hsz := hb.size
    have hkl : k ≤ 1048576 := by omega
    clear h10 hks
    generalize (k : Int) * t.Seg = ks at *
    by_cases hmn : d - ks ≤ t.Seg
    ·skip
     have hm2 : min (d - ks) t.Seg + t.Cost = d - ks + t.Cost := by omega
     rw [hm2] at H10
     clear hm2
     go_wp2_with (at_builtin; refine wpList_append_own _ rfl _ _ 28 rfl w1.heap.size 3 i0 (.int .i64 0) 1 8 Tryz.underlying28 ki kz0 kz1 kz2 rfl (by decide) _ _ _ rfl (HO.out.alloc _) ⟨wr.heap.size, 0, none⟩ 1 1 [.int .i64 (d - ks + t.Cost)] rfl rfl ?c1 ?c2 ?c3 ?c4 ?c5 ?_)
     try (case c1 => exact fun j u hu => cell_new _ _ _ j u hu)
     case c2 => first | rfl | (intro u hu; simp at hu; rcases hu with rfl; rfl)
     case c3 => unfold maxLen; omega
     case c4 => omega
     case c5 => first | omega | (simp; omega)
     intro v' w5 hown1 hgrow _
     have hbel1 : Below w1.heap.size wr w5 := (((Below.refl _ _).alloc hsz _).grown hgrow (by simp; omega) (fun j e => ownsRow_block HO.out j e))
     have Hb1 := Lib.hid (hb.trans hbel1)
     have HO1 : Hid (w5.ownsRow w1.heap.size 3 1 v' (k + 1) (((partsT t d).take (k + 1)).map ic)) := by
      show World.ownsRow _ _ _ _ _ _ _
      rw [H10.out, List.map_append]; simpa [ic, List.map_take] using hown1
     have hc5'' := (Hb1.out.cell (p := ⟨w.heap.size, 5, none⟩) hwl).trans hc5
     clear hown1 hgrow hbel1 hb hc5' hc6'
     go_wp2_with fail
     go_roundw
     case rel => exact ⟨k + 1, by omega, by rw [HKS.out]; congr 1; omega, HO1.out, Hb1.out, by rw [HKS.out]; omega⟩
     case measure => simp [intOf]; omega
    ·skip
     have hm2 : min (d - ks) t.Seg + t.Cost = t.Seg + t.Cost := by omega
     rw [hm2] at H10
     clear hm2
     go_wp2_with (at_builtin; refine wpList_append_own _ rfl _ _ 28 rfl w1.heap.size 3 i0 (.int .i64 0) 1 8 Tryz.underlying28 ki kz0 kz1 kz2 rfl (by decide) _ _ _ rfl (HO.out.alloc _) ⟨wr.heap.size, 0, none⟩ 1 1 [.int .i64 (t.Seg + t.Cost)] rfl rfl ?c1 ?c2 ?c3 ?c4 ?c5 ?_)
     try (case c1 => exact fun j u hu => cell_new _ _ _ j u hu)
     case c2 => first | rfl | (intro u hu; simp at hu; rcases hu with rfl; rfl)
     case c3 => unfold maxLen; omega
     case c4 => omega
     case c5 => first | omega | (simp; omega)
     intro v' w5 hown1 hgrow _
     have hbel1 : Below w1.heap.size wr w5 := (((Below.refl _ _).alloc hsz _).grown hgrow (by simp; omega) (fun j e => ownsRow_block HO.out j e))
     have Hb1 := Lib.hid (hb.trans hbel1)
     have HO1 : Hid (w5.ownsRow w1.heap.size 3 1 v' (k + 1) (((partsT t d).take (k + 1)).map ic)) := by
      show World.ownsRow _ _ _ _ _ _ _
      rw [H10.out, List.map_append]; simpa [ic, List.map_take] using hown1
     have hc5'' := (Hb1.out.cell (p := ⟨w.heap.size, 5, none⟩) hwl).trans hc5
     clear hown1 hgrow hbel1 hb hc5' hc6'
     go_wp2_with fail
     go_roundw
     case rel => exact ⟨k + 1, by omega, by rw [HKS.out]; congr 1; omega, HO1.out, Hb1.out, by rw [HKS.out]; omega⟩
     case measure => simp [intOf]; omega
   ·have hle := HE.out k (by omega)
    have hgt : decide (d - (k : Int) * t.Seg > 0) = false := decide_eq_false (by omega)
    have hkl : k = (partsT t d).length := by omega
    obtain ⟨a9, c9, rfl⟩ := ownsRow_form HO.out
    have Hb := Lib.hid (hbw.trans (hb.mono hbw.size))
    clear hb
    subst hkl
    rw [List.take_length] at HO
    have HI := Lib.hid (ints_of_own HO.out rfl)
    clear hpl
    generalize (((partsT t d).length : Nat) : Int) * t.Seg = ks at *
    go_wp2_with fail
    go_ret
    exact ⟨a9, ⟨c9, rfl⟩, HI.out, Hb.out⟩
 ·have hmb : (t.Mode == 1) = false := by simpa using hm
  have hp1 : partsT t d = [d + t.Cost] := by
   unfold partsT np plen
   rw [if_neg hm]
   show (List.range 1).map _ = _
   simp [hm]
  rw [hp1]
  clear hm hp1
  unfold tkv
  go_enter Tryz.func144, Tryz.ntmps144
  go_wp2_with fail
  go_ret
  refine ⟨some ⟨w.heap.size + 1, 0, none⟩, 1, rfl, ⟨rfl, fun _ => ⟨w.heap.size + 1, 0, rfl, by simp, fun j hj => ?_⟩⟩, bel_alloc (bel_alloc (Below.refl _ _) _) _⟩
  obtain rfl : j = 0 := by simpa using hj
  exact cell_newb _ _ _ _ 0 _ (by simp) rfl
end
section
open Go.RowKit
theorem rg_new (w : World) (cs : Array Value) (T : TypeId) (b : Nat) (hb : b = w.heap.size) : (w.alloc (.cells cs T)).rangeAt b 0 cs.toList := fun j v hj => by
 rw [Nat.zero_add]; exact cell_newb w cs T b j v hb hj
theorem rg_below {w w' : World} {B b o : Nat} {cs : List Value} (h : Below B w w') (hb : b < B) (hc : w.rangeAt b o cs) : w'.rangeAt b o cs := fun j v hj => (h.cell (p := ⟨b, o + j, none⟩) hb).trans (hc j v hj)
theorem rg_fr {F : Nat → Prop} {w w' : World} {b o : Nat} {cs : List Value} (h : Fr F w w') (hb : b < w.heap.size) (hF : ¬ F b) (hc : w.rangeAt b o cs) : w'.rangeAt b o cs := fun j v hj => (h.cell (p := ⟨b, o + j, none⟩) hb hF).trans (hc j v hj)
theorem th_new (w : World) (cs : Array Value) (T : TypeId) (b n : Nat) (hb : b = w.heap.size) (hn : n ≤ cs.size) : (w.alloc (.cells cs T)).there b 0 n := fun j hj => by
 subst hb
 rw [Nat.zero_add, cell_newb w cs T w.heap.size j (cs.toList[j]'(by simpa using Nat.lt_of_lt_of_le hj hn)) rfl (by simp)]
 exact ⟨rfl, by simp⟩
theorem th_below {w w' : World} {B b o n : Nat} (h : Below B w w') (hb : b < B) (hc : w.there b o n) : w'.there b o n := fun j hj => by
 obtain ⟨h1, h2⟩ := hc j hj
 rw [h.cell (p := ⟨b, o + j, none⟩) hb, h.frozen (p := ⟨b, o + j, none⟩) hb]
 exact ⟨h1, h2⟩
theorem rg_left {w : World} {b o : Nat} {xs ys : List Value} (h : w.rangeAt b o (xs ++ ys)) : w.rangeAt b o xs := fun j v hj => by
 obtain ⟨hlt, _⟩ := List.getElem?_eq_some_iff.1 hj
 exact h j v (by rw [List.getElem?_append_left hlt]; exact hj)
theorem rg_right {w : World} {b o : Nat} {xs ys : List Value} (h : w.rangeAt b o (xs ++ ys)) : w.rangeAt b (o + xs.length) ys := fun j v hj => by
 have := h (xs.length + j) v (by rw [List.getElem?_append_right (by omega), Nat.add_sub_cancel_left]; exact hj)
 rwa [← Nat.add_assoc] at this
theorem rg_set {w : World} {b o k : Nat} {cs : List Value} {v : Value} (h : w.rangeAt b o cs) (hk : k < cs.length) : (w.setCell ⟨b, o + k, none⟩ v).rangeAt b o (cs.set k v) := fun j u hj => by
 by_cases e : j = k
 ·subst e
  rw [List.getElem?_set_self hk] at hj
  cases hj
  exact World.cell?_setCell_same _ _ _ (h j _ (List.getElem?_eq_getElem hk))
 ·rw [List.getElem?_set_ne (fun c => e c.symm)] at hj
  rw [World.cell?_setCell_other _ _ _ _ (addr_ne (by omega))]
  exact h j u hj
theorem rg_set_ne {w : World} {b o b' o' : Nat} {cs : List Value} {v : Value} (h : w.rangeAt b o cs) (hb : b' ≠ b) : (w.setCell ⟨b', o', none⟩ v).rangeAt b o cs := fun j u hj => by
 rw [World.cell?_setCell_other _ _ _ _ (addr_ne' hb)]; exact h j u hj
theorem th_set {w : World} {b o n : Nat} {a : Addr} {v : Value} (h : w.there b o n) : (w.setCell a v).there b o n := fun j hj => by
 obtain ⟨h1, h2⟩ := h j hj
 refine ⟨?_, by rw [World.frozen?_setCell]; exact h2⟩
 by_cases e : a = ⟨b, o + j, none⟩
 ·subst e
  obtain ⟨u, hu⟩ := Option.isSome_iff_exists.1 h1
  rw [World.cell?_setCell_same _ _ _ hu]; rfl
 ·rw [World.cell?_setCell_other _ _ _ _ e]; exact h1
theorem below_setCells {B b : Nat} {a : World} (hB : B ≤ b) : ∀ (l : List Value) (o : Nat) (w : World), Below B a w → Below B a (w.setCells b o l)
 | [], _, _, h => h
 | v :: r, o, w, h => below_setCells hB r (o + 1) _ (h.setCell hB v)
variable {P : Program}
theorem res_cell {fn : Func} {p : Tmp} {ty : TypeId} (h : fn.results = #[.cell p ty]) (tmps : Array Value) (w : World) (b : Nat) (cs : List Value) (d : TypeDesc) (hp : tmps.getD p undef = .pointer (some ⟨b, 0, none⟩))
  (hc : w.rangeAt b 0 cs) (hu : P.underlying ty = some d) (hd : d.isRow = true) (hi : (P.info? ty).map (·.size) = some cs.length) : (results fn tmps).run P w = .ok (.agg cs.toArray) w := by
 have hp' : tmps[p]?.getD undef = .pointer (some ⟨b, 0, none⟩) := by rw [← hp]; simp
 unfold results
 rw [h]
 simp [Sem.run_bind, hp', asAddr, run_loadVar_mid w b 0 ty cs d hc hu hd hi]
theorem res_cell_tmp {fn : Func} {p q : Tmp} {ty : TypeId} (h : fn.results = #[.cell p ty, .tmp q]) (tmps : Array Value) (w : World) (b : Nat) (cs : List Value) (d : TypeDesc) (hp : tmps.getD p undef = .pointer (some ⟨b, 0, none⟩))
  (hc : w.rangeAt b 0 cs) (hu : P.underlying ty = some d) (hd : d.isRow = true) (hi : (P.info? ty).map (·.size) = some cs.length) : (results fn tmps).run P w = .ok (.tuple #[.agg cs.toArray, tmps.getD q undef]) w := by
 have hp' : tmps[p]?.getD undef = .pointer (some ⟨b, 0, none⟩) := by rw [← hp]; simp
 unfold results
 rw [h]
 simp [Sem.run_bind, hp', asAddr, run_loadVar_mid w b 0 ty cs d hc hu hd hi]
end
end Go.Proofs.YtnoahekcemfmcaaGreatDoor
