/- A part of the walk: Wn On. -/
import Derived.Test.YtnoahekcemfmcaaGreatDoorQ11
import Derived.BigQuiet
import Derived.Deep.QuietTactic
import Derived.Defers
import Derived.Laws.Pointers
import Derived.Laws.LoneSync
import Derived.RegionTactic
import Derived.RegionCalls
namespace Go.Proofs.YtnoahekcemfmcaaGreatDoor
set_option linter.unusedVariables false
set_option linter.unusedSimpArgs false
section
open Go.RowKit
theorem cntT_nonneg (l : List Bool) : 0 ≤ cntT l := by unfold cntT; omega
theorem cntT_le (l : List Bool) : cntT l ≤ l.length := by unfold cntT; have := List.length_filter_le id l; omega
theorem cntT_snoc (l : List Bool) (b : Bool) : cntT (l ++ [b]) = cntT l + (if b = true then 1 else 0) := by
 unfold cntT; rw [List.filter_append]; cases b <;> simp
theorem take_snoc {α : Type} (l : List α) (j : Nat) (h : j < l.length) : l.take (j + 1) = l.take j ++ [l[j]] := (List.take_succ_eq_append_getElem h)
set_option maxHeartbeats 400000 in
theorem wcount_any (B : Nat) (a : Option Addr) (n c : Nat) (xs : List Bool) (w : World) (hx : BoolsIn B w a n xs) (hn : n ≤ 4096) :
  Calls Tryz.prog 186 #[.slice a n c] w fun e w' => e = .returned (.int .i64 (cntT xs)) ∧ w' = w := by
 obtain ⟨hlen, hx⟩ := hx
 go_enter Tryz.func186, Tryz.ntmps186
 go_wp2_with fail
 go_loop [3, 8] (fun s i => ∃ k : Nat, k ≤ n ∧ i = .int .i64 k ∧ s = .int .i64 (cntT (xs.take k))) (fun _ i => n - (intOf i).toNat)
 case atStart => exact ⟨0, Nat.zero_le _, rfl, by simp [cntT]⟩
 case round =>
  obtain ⟨k, hk, rfl, rfl⟩ := hrel
  by_cases hlt : k < n
  ·obtain ⟨b, off, rfl, hb, hc⟩ := hx (by omega)
   have c := hc k (by omega)
   have h0 := cntT_nonneg (xs.take k)
   have h1 := cntT_le (xs.take k)
   rw [List.length_take] at h1
   have h2 : cntT (xs.take k) ≤ 4096 := by omega
   have ht : cntT (xs.take (k + 1)) = cntT (xs.take k) + (if xs[k] = true then 1 else 0) := by rw [take_snoc xs k (by omega), cntT_snoc]
   have Ht := Lib.hid ht
   clear ht h1
   have Hx := Lib.hid hx
   clear hx hc
   generalize xs[k] = x at *
   cases x
   ·go_wp2_with fail
    go_round
    case rel => exact ⟨k + 1, by omega, by go_num, by rw [Ht.out]; simp⟩
    case measure => simp [intOf]; omega
   ·go_wp2_with fail
    go_round
    case rel => exact ⟨k + 1, by omega, by go_num, by rw [Ht.out]; simp⟩
    case measure => simp [intOf]; omega
  ·have e : xs.take k = xs := List.take_of_length_le (by omega)
   rw [e]
   go_wp2
   go_ret
   exact ⟨rfl, rfl⟩
structure WN (w : World) (z p q k f : Nat) (m : Int) (cf : Nat → Bool) : Prop where
 c0 : w.cell? ⟨z, 0, none⟩ = some (.pointer (some ⟨p, 0, none⟩))
 c1 : w.cell? ⟨z, 1, none⟩ = some (.int .i64 m)
 rb : RB w p q k f k cf
 zp : z ≠ p
 zq : z ≠ q
 m1 : 1 ≤ m
 mlk : m ≤ k
 k64 : k ≤ 64
section
variable {w w' : World} {z p q k f : Nat} {m : Int} {cf : Nat → Bool}
theorem WN.zlt (h : WN w z p q k f m cf) : z < w.heap.size := block_lt h.c0
theorem WN.keep {T : Nat → Prop} (h : WN w z p q k f m cf) (hf : Fr T w w') (hz : ¬ T z) (hp : ¬ T p) (hq : ¬ T q) : WN w' z p q k f m cf :=
 ⟨(hf.cell (p := ⟨z, 0, none⟩) h.zlt hz).trans h.c0, (hf.cell (p := ⟨z, 1, none⟩) h.zlt hz).trans h.c1, h.rb.keep hf hp hq, h.zp, h.zq, h.m1, h.mlk, h.k64⟩
theorem wpush_is (h : WN w z p q k f m cf) (x : Bool) {g : Nat} (hg : (f + 1) % k = g) :
  Calls Tryz.prog 139 #[.pointer (some ⟨z, 0, none⟩), .bool x] w fun e w' => e = .returned (.tuple #[]) ∧ WN w' z p q k g m (upd cf f x) ∧ Fr (fun j => j = p ∨ j = q) w w' := by
 have c0 := h.c0
 have HR := Lib.hid (rpush_is h.rb x hg)
 have H := Lib.hid h
 clear h
 go_enter Tryz.func139, Tryz.ntmps139
 go_wp2_with (go_at_call 179; refine HR.out.mono ?_; rintro e w1 ⟨rfl, h1, f1⟩)
 go_end0
 have hz : ¬ (z = p ∨ z = q) := by have := H.out.zp; have := H.out.zq; omega
 exact ⟨rfl, ⟨(f1.cell (p := ⟨z, 0, none⟩) H.out.zlt hz).trans H.out.c0, (f1.cell (p := ⟨z, 1, none⟩) H.out.zlt hz).trans H.out.c1, h1, H.out.zp, H.out.zq, H.out.m1, H.out.mlk, H.out.k64⟩, f1⟩
theorem wlast_is (h : WN w z p q k f m cf) :
  Calls Tryz.prog 185 #[.pointer (some ⟨z, 0, none⟩)] w fun e w' => (∃ a c, e = .returned (.slice a k c) ∧ k ≤ c ∧ BoolsIn w'.heap.size w' a k (ringL k f k cf)) ∧ Below w.heap.size w w' := by
 have c0 := h.c0
 have HR := Lib.hid (rall_any h.rb)
 clear h
 go_enter Tryz.func185, Tryz.ntmps185
 go_wp2_with (go_at_call 211; refine HR.out.mono ?_; rintro e w1 ⟨⟨a1, c1, rfl, hkc, h1⟩, b1⟩)
 go_ret
 exact ⟨⟨a1, c1, rfl, hkc, h1⟩, b1⟩
theorem wmet_is (h : WN w z p q k f m cf) :
  Calls Tryz.prog 180 #[.pointer (some ⟨z, 0, none⟩)] w fun e w' => e = .returned (.int .i64 (cntT (ringL k f k cf))) ∧ Below w.heap.size w w' := by
 have HR := Lib.hid (wlast_is h)
 have hk := h.k64
 clear h
 go_enter Tryz.func180, Tryz.ntmps180
 go_wp2_with (first | (go_at_call 185; refine HR.out.mono ?_; rintro e w1 ⟨⟨a1, c1, rfl, hkc, h1⟩, b1⟩) | (go_at_call 186; refine (wcount_any _ _ _ _ _ _ h1 (by omega)).mono ?_; rintro e w2 ⟨rfl, rfl⟩))
 go_ret
 exact ⟨rfl, b1⟩
set_option maxHeartbeats 1000000 in
theorem wfails_any (h : WN w z p q k f m cf) :
  Calls Tryz.prog 140 #[.pointer (some ⟨z, 0, none⟩)] w fun e w' => (∃ b, e = .returned (.bool b)) ∧ Below w.heap.size w w' := by
 have c1 := h.c1
 have hz := h.zlt
 have HM := Lib.hid (fun w' (hb : Below w.heap.size w w') => wmet_is (h.keep (T := fun _ => False) (Fr.of_below hb) (by simp) (by simp) (by simp)))
 have hb0 := Lib.hid (Below.refl w.heap.size w)
 clear h
 go_enter Tryz.func140, Tryz.ntmps140
 go_wp2_with fail
 go_region_law (go_simp; go_at_call 180; refine (HM.out _ (by first | exact hb0.out | exact bel_drewN hb0.out _ | exact bel_drew hb0.out)).mono ?_; rintro e w2 ⟨rfl, b2⟩; have d1 := (b2.cell (p := ⟨z, 1, none⟩) (by first | exact hz | simpa using hz)).trans (by first | exact c1 | (go_simp; done) | simpa using c1))
 all_goals
  go_wp2_with fail
  go_ret
  exact ⟨⟨_, rfl⟩, by first | exact hb0.out.trans b2 | exact (bel_drew hb0.out).trans b2 | exact (bel_drewN hb0.out _).trans b2⟩
theorem boolsDrop {B : Nat} {b off n : Nat} {xs : List Bool} (h : BoolsIn B w (some ⟨b, off, none⟩) n xs) (j : Nat) (hj : j ≤ n) : BoolsIn B w (some ⟨b, off + j, none⟩) (n - j) (xs.drop j) := by
 obtain ⟨h1, h2⟩ := h
 refine ⟨by rw [List.length_drop, h1], fun h0 => ?_⟩
 obtain ⟨b', off', e, hlt, hc⟩ := h2 (by omega)
 simp only [Option.some.injEq, Addr.mk.injEq, and_true] at e
 obtain ⟨rfl, rfl⟩ := e
 refine ⟨b, off + j, rfl, hlt, fun i hi => ?_⟩
 rw [List.length_drop] at hi
 have := hc (j + i) (by omega)
 rw [List.getElem_drop, Nat.add_assoc]
 exact this
set_option maxHeartbeats 1000000 in
theorem wdist_is (h : WN w z p q k f m cf) :
  Calls Tryz.prog 146 #[.pointer (some ⟨z, 0, none⟩)] w fun e w' => (∃ d : Int, e = .returned (.int .i64 d) ∧ (d ≤ 1 ∨ m ≤ cntT ((ringL k f k cf).drop 1))) ∧ Below w.heap.size w w' := by
 have HR := Lib.hid (wlast_is h)
 have c1 := h.c1
 have hk := h.k64
 have hk1 := h.rb.k1
 have hz := h.zlt
 have hm1 := h.m1
 have hll : (ringL k f k cf).length = k := ringL_len _ _ _ _
 clear h
 generalize ringL k f k cf = xs at *
 generalize hY : cntT (xs.drop 1) = Y
 have HY := Lib.hid hY
 clear hY
 go_enter Tryz.func146, Tryz.ntmps146
 go_wp2_with (go_at_call 185; refine HR.out.mono ?_; rintro e w1 ⟨⟨a1, c2, rfl, hkc2, h1⟩, b1⟩)
 have d1 := (b1.cell (p := ⟨z, 1, none⟩) hz).trans c1
 obtain ⟨b, off, rfl, hbl, hcc⟩ := h1.2 (by omega)
 clear hcc
 have HB := Lib.hid b1
 clear b1 HR
 have hb0 : Below w1.heap.size w1 w1 := Below.refl _ _
 have hz1 : z < w1.heap.size := Nat.lt_of_lt_of_le hz HB.out.size
 go_loopw [4] (fun i wx => ∃ j : Nat, j ≤ k ∧ i = .int .i64 j ∧ (∀ x, x < j → m ≤ cntT (xs.drop x)) ∧ Below w1.heap.size w1 wx) (fun i _ => k - (intOf i).toNat)
 case atStart => exact ⟨0, Nat.zero_le _, rfl, fun x hx => by omega, hb0⟩
 case round =>
  obtain ⟨j, hj, rfl, hall, hb⟩ := hrel
  have hD := (boolsDrop h1 j hj).keep hb
  have e1 := (hb.cell (p := ⟨z, 1, none⟩) hz1).trans d1
  have Hall := Lib.hid hall
  have Hb := Lib.hid hb
  clear hall hb hb0 d1
  have hD' : Hid (∀ y, BoolsIn w1.heap.size (wr.drewN y) (if c2 = j then some ⟨b, off, none⟩ else some ⟨b, off + j, none⟩) (k - j) (xs.drop j)) := fun y =>
   ⟨hD.1, fun h0 => by
    obtain ⟨b', o', e, hlt, hc⟩ := hD.2 h0
    exact ⟨b', o', by rw [if_neg (by omega)]; exact e, hlt, fun i hi => by rw [World.cell?_drewN]; exact hc i hi⟩⟩
  clear hD
  have hjI : (j : Int) ≤ (k : Int) := by omega
  have hj0 : (0 : Int) ≤ (j : Int) := by omega
  have hkc : (k : Int) ≤ 64 := by omega
  by_cases hge : m ≤ cntT (xs.drop j)
  ·have hgd : decide (cntT (xs.drop j) ≥ m) = true := decide_eq_true hge
   have hjk : j < k := by
    rcases Nat.lt_or_ge j k with h | h
    ·exact h
    ·rw [List.drop_of_length_le (by omega)] at hge
     simp [cntT] at hge; omega
   have hjk2 : (j : Int) < 64 := by omega
   have hg2 : Hid (∀ x, x < j + 1 → m ≤ cntT (xs.drop x)) := fun x hx => by
    by_cases h : x = j
    ·rw [h]; exact hge
    ·exact Hall.out x (by omega)
   go_wp2_with fail
   go_quiet ((go_at_call 186; refine Calls.quiet_of_same (wcount_any _ _ _ _ _ _ (hD'.out _) (by omega))))
   all_goals (go_wp2_with fail)
   all_goals
    go_roundw
    case rel => exact ⟨j + 1, by omega, by simp, hg2.out, bel_drewN Hb.out _⟩
    case measure => simp [intOf]; omega
  ·have hgd : decide (cntT (xs.drop j) ≥ m) = false := decide_eq_false hge
   go_wp2_with fail
   go_quiet ((go_at_call 186; refine Calls.quiet_of_same (wcount_any _ _ _ _ _ _ (hD'.out _) (by omega))))
   all_goals (go_wp2_with fail)
   all_goals
    go_ret
    refine ⟨⟨_, rfl, ?_⟩, HB.out.trans ((bel_drewN Hb.out _).mono HB.out.size)⟩
    by_cases h : j ≤ 1
    ·exact .inl (by omega)
    ·exact .inr (by rw [← HY.out]; exact Hall.out 1 (by omega))
theorem RB.congr {p q k f n : Nat} {cf cg : Nat → Bool} (h : RB w p q k f n cf) (e : ∀ i, i < k → cf i = cg i) : RB w p q k f n cg :=
 { h with el := fun i hi => by rw [← e i hi]; exact h.el i hi }
set_option maxHeartbeats 1000000 in
theorem wnew_good (m k : Nat) (w : World) (h1 : 1 ≤ m) (h2 : m ≤ k) (h3 : k ≤ 64) :
  Calls Tryz.prog 55 #[.int .i64 m, .int .i64 k] w fun e w' => (∃ z p q cf, e = .returned (.tuple #[.pointer (some ⟨z, 0, none⟩), .int .i64 0]) ∧ WN w' z p q k 0 m cf ∧ ringL k 0 k cf = List.replicate k true ∧ w.heap.size ≤ z ∧ w.heap.size ≤ p ∧ w.heap.size ≤ q ∧ z < w'.heap.size) ∧ Below w.heap.size w w' := by
 have HR := Lib.hid (rnew_good k w (by omega) (by omega))
 have hmI : (1 : Int) ≤ (m : Int) := by omega
 have hkI : (m : Int) ≤ (k : Int) := by omega
 have hk64 : (k : Int) ≤ 64 := by omega
 have hd1 : decide ((m : Int) < 1) = false := decide_eq_false (by omega)
 have hd2 : decide ((m : Int) > (k : Int)) = false := decide_eq_false (by omega)
 have hd3 : decide ((k : Int) > 64) = false := decide_eq_false (by omega)
 go_enter Tryz.func55, Tryz.ntmps55
 go_wp2_with (go_at_call 91; refine HR.out.mono ?_; rintro e w1 ⟨⟨p, q, rfl, hr, hp, hq⟩, hb⟩)
 clear HR
 go_loopw [28] (fun i wx => ∃ j : Nat, j ≤ k ∧ i = .int .i64 j ∧ Hid (RB wx p q k 0 j (fun i => decide (i < j))) ∧ Below w.heap.size w wx) (fun i _ => k - (intOf i).toNat)
 case atStart => exact ⟨0, Nat.zero_le _, rfl, (show RB _ _ _ _ _ _ _ from hr.congr (fun i hi => by simp)), hb⟩
 case round =>
  clear hr hb
  obtain ⟨j, hj, rfl, HO, hb⟩ := hrel
  by_cases hlt : j < k
  ·have hltI : (j : Int) < (k : Int) := by omega
   have hd4 : decide ((j : Int) < (k : Int)) = true := decide_eq_true hltI
   have HP := Lib.hid (rput_is HO.out hlt true (g := j) (by rw [Nat.zero_add]; exact Nat.mod_eq_of_lt hlt))
   have Hb := Lib.hid hb
   clear hb
   go_wp2_with (go_at_call 92; refine HP.out.mono ?_; rintro e w4 ⟨rfl, h4, f4⟩)
   have h5 := Lib.hid (h4.congr (cg := fun i => decide (i < j + 1)) (fun i hi => by
    by_cases e : i = j
    ·subst e; rw [upd_self]; simp
    ·rw [upd_ne _ _ e]; simp; omega))
   have hb5 := Lib.hid (Hb.out.trans (f4.below (fun i _ h => by rcases h with rfl | rfl; exact hp; exact hq) Hb.out.size))
   clear h4 f4
   go_roundw
   case rel => exact ⟨j + 1, by omega, by simp, h5.out, hb5.out⟩
   case measure => simp [intOf]; omega
  ·have hje : j = k := by omega
   subst hje
   have hd4 : decide ((j : Int) < (j : Int)) = false := decide_eq_false (by omega)
   have Hb := Lib.hid hb
   clear hb
   go_wp2_with fail
   go_ret2
   have hF : Fr (fun _ => False) wr (wr.alloc (.cells #[.pointer (some ⟨p, 0, none⟩), .int .i64 m, .int .i64 j] 198)) := (Fr.refl _ wr).alloc _
   have hx := HO.out.keep hF (by simp) (by simp)
   have hpl := HO.out.plt
   have hql := HO.out.qlt
   refine ⟨⟨wr.heap.size, p, q, _, rfl, ⟨cell_newb _ _ _ _ 0 _ rfl rfl, cell_newb _ _ _ _ 1 _ rfl rfl, hx, by omega, by omega, hmI, hkI, h3⟩, ?_, Hb.out.size, hp, hq, by simp⟩, Hb.out.alloc Hb.out.size _⟩
   apply List.ext_getElem
   ·rw [ringL_len, List.length_replicate]
   ·intro i h1 h2
    rw [ringL_len] at h1
    simp only [ringL, List.getElem_map, List.getElem_range, List.getElem_replicate]
    rw [Nat.zero_add, Nat.mod_eq_of_lt h1]
    simpa using h1
end
end
section
open Go.RowKit
theorem disable (w : World) : (callFunc 213 #[]).run Tryz.prog w = .ok (.value (.tuple #[])) w := run_call_mark0 Tryz.func213 (by kernel_rfl) (by kernel_rfl) (by kernel_rfl) .disable (by kernel_rfl) w
theorem enable (w : World) : (callFunc 215 #[]).run Tryz.prog w = .ok (.value (.tuple #[])) w := run_call_mark0 Tryz.func215 (by kernel_rfl) (by kernel_rfl) (by kernel_rfl) .enable (by kernel_rfl) w
theorem acquire (a : Addr) (w : World) : (callFunc 216 #[.pointer (some a)]).run Tryz.prog w = .ok (.value (.tuple #[])) w := run_call_marked Tryz.func216 (by kernel_rfl) (by kernel_rfl) (by kernel_rfl) .acquire (by kernel_rfl) a w
theorem releaseMerge (a : Addr) (w : World) : (callFunc 218 #[.pointer (some a)]).run Tryz.prog w = .ok (.value (.tuple #[])) w := run_call_marked Tryz.func218 (by kernel_rfl) (by kernel_rfl) (by kernel_rfl) .releaseMerge (by kernel_rfl) a w
theorem store_deferred (a : Addr) (x : Value) (u : FrameMode) (w : World) (hc : w.cell? a = some x) (hz : w.frozen? a = false) :
  CallsD Tryz.prog 168 #[.pointer (some a), .bool true] u w fun e u' w' => u' = u ∧ (e = .returned (.tuple #[]) ∧ w' = w.drew.setCell a (.int .u32 1)) := by
 have hc' : w.drew.cell? a = some x := by go_simp
 have hz' : w.drew.frozen? a = false := by go_simp
 have hst := run_call_store (P := Tryz.prog) Tryz.func195 (by kernel_rfl) (by kernel_rfl) (by kernel_rfl) (by kernel_rfl) (k := .u32) (y := 1) hc' hz'
 go_enter_d Tryz.func168, Tryz.ntmps168
 go_wp2
 go_region_calls
 all_goals (go_end0; exact ⟨rfl, rfl⟩)
set_option maxRecDepth 100000 in
theorem unlock_deferred (a : Addr) (u : FrameMode) (w : World) (hc : w.cell? a = some (.int .i32 1)) (hz : w.frozen? a = false) :
  CallsD Tryz.prog 167 #[.pointer (some a)] u w fun e u' w' => u' = u ∧ (e = .returned (.tuple #[]) ∧ w' = w.setCell a (.int .i32 0)) := by
 have hd := disable
 have he := enable
 have hr := releaseMerge
 have hadd := run_call_add (P := Tryz.prog) Tryz.func219 (by kernel_rfl) (by kernel_rfl) (by kernel_rfl) .i32 (by kernel_rfl) (y := -1) (s := 0) hc hz (by simp [go_sem]; rfl)
 have hcv := run_convert_to_unsafe (P := Tryz.prog) (src := 305) (dst := 309) Tryz.underlying305 Tryz.underlying309 (by kernel_rfl) hc
 go_enter_d Tryz.func167, Tryz.ntmps167
 go_wp2
 go_end0
 go_wp2
 go_end0
 exact ⟨rfl, rfl⟩
set_option maxRecDepth 100000 in
theorem lock_free (a : Addr) (w : World) (hc : w.cell? a = some (.int .i32 0)) (hz : w.frozen? a = false) :
  Calls Tryz.prog 166 #[.pointer (some a)] w fun e w' => e = .returned (.tuple #[]) ∧ w' = w.setCell a (.int .i32 1) := by
 have hd := disable
 have he := enable
 have ha := acquire
 have hcas := run_call_cas_hit (P := Tryz.prog) Tryz.func214 (by kernel_rfl) (by kernel_rfl) (by kernel_rfl) .i32 (by kernel_rfl) (y := 1) hc hz
 have hc' : (w.setCell a (.int .i32 1)).cell? a = some (.int .i32 1) := World.cell?_setCell_same w a _ hc
 have hcv := run_convert_to_unsafe (P := Tryz.prog) (src := 305) (dst := 309) Tryz.underlying305 Tryz.underlying309 (by kernel_rfl) hc'
 go_enter Tryz.func166, Tryz.ntmps166
 go_wp2
 first | go_end0 | (simp only [Exit.inBlock, Exit.then]; refine bodyPost_ret (results_none rfl _ _ _) rfl ?_) | refine bodyPost_ret (results_none rfl _ _ _) rfl ?_
 go_wp2
 go_end0
 exact ⟨rfl, rfl⟩
theorem bload_is (a : Addr) (x : Int) (w : World) (h : w.cell? a = some (.int .u32 x)) {r : Bool} (hr : (x != 0) = r) :
  Calls Tryz.prog 123 #[.pointer (some a)] w fun e w' => e = .returned (.bool r) ∧ w' = w := by
 have hl := run_call_load (P := Tryz.prog) Tryz.func165 (by kernel_rfl) (by kernel_rfl) (by kernel_rfl) .u32 (by kernel_rfl) h
 go_enter Tryz.func123, Tryz.ntmps123
 go_wp2
 go_ret
 exact ⟨rfl, rfl⟩
section
variable {b off : Nat} {w : World} {R : World → Prop}
def KeepsOnce (b off : Nat) (w w' : World) : Prop := (∃ x, w'.cell? ⟨b, off, none⟩ = some x) ∧ w'.cell? ⟨b, off + 1, none⟩ = some (.int .i32 1) ∧ w'.frozen? ⟨b, off, none⟩ = false ∧ w'.frozen? ⟨b, off + 1, none⟩ = false
set_option maxRecDepth 100000 in
set_option maxHeartbeats 1600000 in
theorem slow183 (c0 c1 c2 c3 : Value) (h0 : w.cell? ⟨b, off, none⟩ = some (.int .u32 0)) (h1 : w.cell? ⟨b, off + 1, none⟩ = some (.int .i32 0))
  (f0 : w.frozen? ⟨b, off, none⟩ = false) (f1 : w.frozen? ⟨b, off + 1, none⟩ = false)
  (hcl : Calls Tryz.prog 183 #[c0, c1, c2, c3] (w.setCell ⟨b, off + 1, none⟩ (.int .i32 1)) fun e w' => e = .returned (.tuple #[]) ∧ R w' ∧ KeepsOnce b off w w') :
  Calls Tryz.prog 124 #[.pointer (some ⟨b, off, none⟩), .func (.func 183) #[] #[c0, c1, c2, c3]] w fun e w' => e = .returned (.tuple #[]) ∧
   ∃ w1, R w1 ∧ KeepsOnce b off w w1 ∧ w' = (w1.drew.setCell ⟨b, off, none⟩ (.int .u32 1)).setCell ⟨b, off + 1, none⟩ (.int .i32 0) := by
 have hl := Lib.hid (bload_is ⟨b, off, none⟩ 0 (w.setCell ⟨b, off + 1, none⟩ (.int .i32 1)) ((World.cell?_setCell_other _ ⟨b, off + 1, none⟩ ⟨b, off, none⟩ _ (by simp)).trans h0) (r := false) rfl)
 have hnot : ∀ (x : Bool) (w : World), (Op.unary .not (.bool x)).run Tryz.prog w = .ok (.bool (!x)) w := fun _ _ => rfl
 go_enter_defers Tryz.func124, Tryz.ntmps124
 go_wp2_with (first | (go_at_call 166; refine (lock_free ⟨b, off + 1, none⟩ _ (by go_simp) (by go_simp)).mono ?_; rintro e w' ⟨rfl, rfl⟩) | (go_at_call 123; refine hl.out.mono ?_; rintro e w' ⟨rfl, rfl⟩) | (go_at_call 183; refine hcl.mono ?_; rintro e w1 ⟨rfl, hR, hK⟩))
 obtain ⟨⟨x0, k0⟩, k1, z0, z1⟩ := hK
 unfold bodyPostD
 refine leaves_cons (f := 168) (args := #[.pointer (some ⟨b, off, none⟩), .bool true]) (by simp) (by simp [go_sem]) ?_
 refine (store_deferred ⟨b, off, none⟩ x0 .returning _ k0 z0).mono ?_
 rintro e u' w'' ⟨rfl, rfl, rfl⟩
 refine leaves_cons (f := 167) (args := #[.pointer (some ⟨b, off + 1, none⟩)]) (by simp [settle]) (by simp [go_sem]) ?_
 refine (unlock_deferred ⟨b, off + 1, none⟩ _ _ ?_ (by simp [z1])).mono ?_
 ·refine (World.cell?_setCell_other _ ⟨b, off, none⟩ ⟨b, off + 1, none⟩ _ (by simp)).trans ?_
  rw [World.cell?_drew]
  exact k1
 rintro e u' w'' ⟨rfl, rfl, rfl⟩
 simp [Leaves, settle, results, Tryz.results124]
 exact ⟨w1, hR, ⟨⟨x0, k0⟩, k1, z0, z1⟩, rfl⟩
theorem do183 (c0 c1 c2 c3 : Value) (h0 : w.cell? ⟨b, off, none⟩ = some (.int .u32 0)) (h1 : w.cell? ⟨b, off + 1, none⟩ = some (.int .i32 0))
  (f0 : w.frozen? ⟨b, off, none⟩ = false) (f1 : w.frozen? ⟨b, off + 1, none⟩ = false)
  (hcl : Calls Tryz.prog 183 #[c0, c1, c2, c3] (w.setCell ⟨b, off + 1, none⟩ (.int .i32 1)) fun e w' => e = .returned (.tuple #[]) ∧ R w' ∧ KeepsOnce b off w w') :
  Calls Tryz.prog 85 #[.pointer (some ⟨b, off, none⟩), .func (.func 183) #[] #[c0, c1, c2, c3]] w fun e w' => e = .returned (.tuple #[]) ∧
   ∃ w1, R w1 ∧ KeepsOnce b off w w1 ∧ w' = (w1.drew.setCell ⟨b, off, none⟩ (.int .u32 1)).setCell ⟨b, off + 1, none⟩ (.int .i32 0) := by
 have hl := Lib.hid (bload_is ⟨b, off, none⟩ 0 w h0 (r := false) rfl)
 have HS := Lib.hid (slow183 c0 c1 c2 c3 h0 h1 f0 f1 hcl)
 have hnot : ∀ (x : Bool) (w : World), (Op.unary .not (.bool x)).run Tryz.prog w = .ok (.bool (!x)) w := fun _ _ => rfl
 clear hcl
 go_enter Tryz.func85, Tryz.ntmps85
 go_wp2_with (first | (go_at_call 123; refine hl.out.mono ?_; rintro e w' ⟨rfl, rfl⟩) | (go_at_call 124; refine HS.out.mono ?_; rintro e w' ⟨rfl, hx⟩))
 go_end0
 exact ⟨rfl, hx⟩
end
end
end Go.Proofs.YtnoahekcemfmcaaGreatDoor
