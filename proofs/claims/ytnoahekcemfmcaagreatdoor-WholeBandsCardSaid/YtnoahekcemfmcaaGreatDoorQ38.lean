/- A part of the walk: Tb Tc Td. -/
import Derived.Test.YtnoahekcemfmcaaGreatDoorQ37
import Derived.Lib.QuietBelow
import Derived.Test.YtnoahekcemfmcaaGreatDoorQ29
import Derived.Laws.IdiomStrings
import Derived.Test.YtnoahekcemfmcaaGreatDoorQ28
namespace Go.Proofs.YtnoahekcemfmcaaGreatDoor
set_option linter.unusedVariables false
set_option linter.unusedSimpArgs false
section
open Go.RowKit
theorem GrS.below {w w' : World} (h : GrS w w') : Below w.heap.size w w' := by
 obtain ⟨q, os, rfl⟩ := h
 exact ⟨rfl, rfl, rfl, by simp [Sort.grow], fun k hk => by simp [Sort.grow, Array.getElem?_append, hk]⟩
theorem numS_size (n : Nat) : (numS n).size ≤ 2 := by
 unfold numS
 split
 ·rw [strOfNums_size]; simp
 ·rw [ByteArray.size_append, strOfNums_size, strOfNums_size]; simp
theorem modeS_size (n : Nat) : (modeS n).size ≤ 6 := by
 unfold modeS
 split
 ·decide
 ·split <;> decide
def rtaskS (nm S1 S2 S3 S4 S5 S6 S7 S8 S9 S0 : ByteArray) : ByteArray := (⟨#[116, 97, 115, 107, 32]⟩ : ByteArray) ++ nm ++ ⟨#[32]⟩ ++ S1 ++ ⟨#[32]⟩ ++ S2 ++ ⟨#[32]⟩ ++ S3 ++ ⟨#[32]⟩ ++ S4 ++ ⟨#[32]⟩ ++ S5 ++ ⟨#[32]⟩ ++ S6 ++ ⟨#[32]⟩ ++ S7 ++ ⟨#[32]⟩ ++ S8 ++ ⟨#[32]⟩ ++ S9 ++ ⟨#[32]⟩ ++ S0
set_option maxRecDepth 100000 in
set_option maxHeartbeats 4000000 in
theorem rtask_any (nm : ByteArray) (T D C A Seg Cost M K Mo Prio : Nat) (w : World) (hn : nm.size ≤ 60) (h1 : T < 100) (h2 : D < 100) (h3 : C < 100) (h4 : A < 100) (h5 : Seg < 100) (h6 : Cost < 100) (h7 : M < 100) (h8 : K < 100) (h9 : 1 ≤ Mo) (h10 : Mo ≤ 3) (h11 : Prio < 100) :
  Calls Tryz.prog 84 #[.agg #[.string nm, .int .i64 T, .int .i64 D, .int .i64 C, .int .i64 A, .int .i64 Seg, .int .i64 Cost, .int .i64 M, .int .i64 K, .int .i64 Mo, .int .i64 Prio]] w fun e w' =>
   e = .returned (.string (rtaskS nm (numS T) (numS D) (numS C) (modeS Mo) (numS A) (numS Seg) (numS Cost) (numS M) (numS K) (numS Prio))) ∧ Below w.heap.size w w' := by
 have hm : Tryz.prog.follows .mixedOrders = true := by kernel_rfl
 unfold rtaskS
 obtain ⟨S1, e1⟩ : ∃ S, numS T = S := ⟨_, rfl⟩
 obtain ⟨S2, e2⟩ : ∃ S, numS D = S := ⟨_, rfl⟩
 obtain ⟨S3, e3⟩ : ∃ S, numS C = S := ⟨_, rfl⟩
 obtain ⟨S4, e4⟩ : ∃ S, modeS Mo = S := ⟨_, rfl⟩
 obtain ⟨S5, e5⟩ : ∃ S, numS A = S := ⟨_, rfl⟩
 obtain ⟨S6, e6⟩ : ∃ S, numS Seg = S := ⟨_, rfl⟩
 obtain ⟨S7, e7⟩ : ∃ S, numS Cost = S := ⟨_, rfl⟩
 obtain ⟨S8, e8⟩ : ∃ S, numS M = S := ⟨_, rfl⟩
 obtain ⟨S9, e9⟩ : ∃ S, numS K = S := ⟨_, rfl⟩
 obtain ⟨S0, e0⟩ : ∃ S, numS Prio = S := ⟨_, rfl⟩
 have z1 : S1.size ≤ 2 := e1 ▸ numS_size T
 have z2 : S2.size ≤ 2 := e2 ▸ numS_size D
 have z3 : S3.size ≤ 2 := e3 ▸ numS_size C
 have z4 : S4.size ≤ 6 := e4 ▸ modeS_size Mo
 have z5 : S5.size ≤ 2 := e5 ▸ numS_size A
 have z6 : S6.size ≤ 2 := e6 ▸ numS_size Seg
 have z7 : S7.size ≤ 2 := e7 ▸ numS_size Cost
 have z8 : S8.size ≤ 2 := e8 ▸ numS_size M
 have z9 : S9.size ≤ 2 := e9 ▸ numS_size K
 have z0 : S0.size ≤ 2 := e0 ▸ numS_size Prio
 have G (n : Nat) (S : ByteArray) (hn : n < 100) (he : numS n = S) : ∀ (w1 : World) d os, Calls Tryz.prog 83 #[.int .i64 n] (Sort.grow (redrawn w1 d) os) fun e w'' => e = .returned (.string S) ∧ ∃ p : Regrown, w'' = Sort.grow (redrawn w1 p.d) p.os := fun w1 d os =>
  Calls.regrown_of ((number_any n _ hn).mono fun e w' ⟨a, b⟩ => ⟨he ▸ a, b.below⟩)
 have c1 := Lib.hid (G T S1 h1 e1)
 have c2 := Lib.hid (G D S2 h2 e2)
 have c3 := Lib.hid (G C S3 h3 e3)
 have c5 := Lib.hid (G A S5 h4 e5)
 have c6 := Lib.hid (G Seg S6 h5 e6)
 have c7 := Lib.hid (G Cost S7 h6 e7)
 have c8 := Lib.hid (G M S8 h7 e8)
 have c9 := Lib.hid (G K S9 h8 e9)
 have c0 := Lib.hid (G Prio S0 h11 e0)
 have c4 : Hid (∀ (w1 : World) d os, Calls Tryz.prog 122 #[.int .i64 Mo] (Sort.grow (redrawn w1 d) os) fun e w'' => e = .returned (.string S4) ∧ ∃ p : Regrown, w'' = Sort.grow (redrawn w1 p.d) p.os) := fun w1 d os =>
  Calls.regrown_of ((mode_any Mo _ h9 h10).mono fun e w' ⟨a, b⟩ => ⟨e4 ▸ a, b.below⟩)
 generalize (T : Int) = T' at *
 generalize (D : Int) = D' at *
 generalize (C : Int) = C' at *
 generalize (A : Int) = A' at *
 generalize (Seg : Int) = Seg' at *
 generalize (Cost : Int) = Cost' at *
 generalize (M : Int) = M' at *
 generalize (K : Int) = K' at *
 generalize (Mo : Int) = Mo' at *
 generalize (Prio : Int) = Prio' at *
 rw [e1, e2, e3, e4, e5, e6, e7, e8, e9, e0]
 clear G e1 e2 e3 e4 e5 e6 e7 e8 e9 e0 h1 h2 h3 h4 h5 h6 h7 h8 h9 h10 h11
 have hb := Lib.hid (bel_alloc (Below.refl w.heap.size w) (.cells #[.string nm, .int .i64 T', .int .i64 D', .int .i64 C', .int .i64 A', .int .i64 Seg', .int .i64 Cost', .int .i64 M', .int .i64 K', .int .i64 Mo', .int .i64 Prio'] 41))
 have n1 : ¬ 9223372036854775807 < 5 + nm.size := by omega
 have n2 : ¬ 9223372036854775807 < 5 + nm.size + 1 := by omega
 have n3 : ¬ 9223372036854775807 < 5 + nm.size + 1 + S1.size := by omega
 have n4 : ¬ 9223372036854775807 < 5 + nm.size + 1 + S1.size + 1 := by omega
 have n5 : ¬ 9223372036854775807 < 5 + nm.size + 1 + S1.size + 1 + S2.size := by omega
 have n6 : ¬ 9223372036854775807 < 5 + nm.size + 1 + S1.size + 1 + S2.size + 1 := by omega
 have n7 : ¬ 9223372036854775807 < 5 + nm.size + 1 + S1.size + 1 + S2.size + 1 + S3.size := by omega
 have n8 : ¬ 9223372036854775807 < 5 + nm.size + 1 + S1.size + 1 + S2.size + 1 + S3.size + 1 := by omega
 have n9 : ¬ 9223372036854775807 < 5 + nm.size + 1 + S1.size + 1 + S2.size + 1 + S3.size + 1 + S4.size := by omega
 go_enter Tryz.func84, Tryz.ntmps84
 go_wp2_with fail
 have KK : ∀ (j : Nat) (u : Value), (#[.string nm, .int .i64 T', .int .i64 D', .int .i64 C', .int .i64 A', .int .i64 Seg', .int .i64 Cost', .int .i64 M', .int .i64 K', .int .i64 Mo', .int .i64 Prio'] : Array Value).toList[j]? = some u → ∀ d os, (Sort.grow (redrawn (w.alloc (.cells #[.string nm, .int .i64 T', .int .i64 D', .int .i64 C', .int .i64 A', .int .i64 Seg', .int .i64 Cost', .int .i64 M', .int .i64 K', .int .i64 Mo', .int .i64 Prio'] 41)) d) os).cell? ⟨w.heap.size, j, none⟩ = some u := fun j u hu d os => cell_regrown (cell_newb w _ 41 _ j u rfl hu) d os
 have k0 := KK 0 _ rfl
 have k1 := KK 1 _ rfl
 have k2 := KK 2 _ rfl
 have k3 := KK 3 _ rfl
 have k4 := KK 4 _ rfl
 have k5 := KK 5 _ rfl
 have k6 := KK 6 _ rfl
 have k7 := KK 7 _ rfl
 have k8 := KK 8 _ rfl
 have k9 := KK 9 _ rfl
 have k10 := KK 10 _ rfl
 clear KK
 refine wp_region_quiet_below hm (by kernel_rfl) ?_
 repeat (quiet_step (fail))
 quiet_step (exact c1.out _ _ _)
 repeat (quiet_step (fail))
 quiet_step (exact c2.out _ _ _)
 repeat (quiet_step (fail))
 quiet_step (exact c3.out _ _ _)
 repeat (quiet_step (fail))
 quiet_step (exact c4.out _ _ _)
 repeat (quiet_step (fail))
 refine wpQuiet_nil ?_
 intro _ hw'
 obtain ⟨⟨dq, osq⟩, hw''⟩ := hw'
 subst hw''
 clear k0 k1 k2 k3 k4 k5 k6 k7 k8 k9 k10
 have hbq := below_regrown (w.alloc (.cells #[.string nm, .int .i64 T', .int .i64 D', .int .i64 C', .int .i64 A', .int .i64 Seg', .int .i64 Cost', .int .i64 M', .int .i64 K', .int .i64 Mo', .int .i64 Prio'] 41)) dq osq
 have hXs : ((⟨#[116, 97, 115, 107, 32]⟩ : ByteArray) ++ nm ++ ⟨#[32]⟩ ++ S1 ++ ⟨#[32]⟩ ++ S2 ++ ⟨#[32]⟩ ++ S3 ++ ⟨#[32]⟩ ++ S4).size ≤ 100 := by
  simp only [ByteArray.size_append]
  rw [show (⟨#[116, 97, 115, 107, 32]⟩ : ByteArray).size = 5 from rfl, show (⟨#[32]⟩ : ByteArray).size = 1 from rfl]
  omega
 generalize hX : (⟨#[116, 97, 115, 107, 32]⟩ : ByteArray) ++ nm ++ ⟨#[32]⟩ ++ S1 ++ ⟨#[32]⟩ ++ S2 ++ ⟨#[32]⟩ ++ S3 ++ ⟨#[32]⟩ ++ S4 = X at hXs ⊢
 have HX := Lib.hid hX
 clear hX
 have KQ : ∀ (j : Nat) (u : Value), (#[.string nm, .int .i64 T', .int .i64 D', .int .i64 C', .int .i64 A', .int .i64 Seg', .int .i64 Cost', .int .i64 M', .int .i64 K', .int .i64 Mo', .int .i64 Prio'] : Array Value).toList[j]? = some u → ∀ d os, (Sort.grow (redrawn (Sort.grow (redrawn (w.alloc (.cells #[.string nm, .int .i64 T', .int .i64 D', .int .i64 C', .int .i64 A', .int .i64 Seg', .int .i64 Cost', .int .i64 M', .int .i64 K', .int .i64 Mo', .int .i64 Prio'] 41)) dq) osq) d) os).cell? ⟨w.heap.size, j, none⟩ = some u := fun j u hu d os => cell_regrown (cell_regrown (cell_newb w _ 41 _ j u rfl hu) dq osq) d os
 have q4 := KQ 4 _ rfl
 have q5 := KQ 5 _ rfl
 have q6 := KQ 6 _ rfl
 have q7 := KQ 7 _ rfl
 have q8 := KQ 8 _ rfl
 have q10 := KQ 10 _ rfl
 clear KQ
 have HBQ := Lib.hid (hb.out.trans (hbq.mono hb.out.size))
 clear hbq
 generalize Sort.grow (redrawn (w.alloc (.cells #[.string nm, .int .i64 T', .int .i64 D', .int .i64 C', .int .i64 A', .int .i64 Seg', .int .i64 Cost', .int .i64 M', .int .i64 K', .int .i64 Mo', .int .i64 Prio'] 41)) dq) osq = w2 at *
 have m0 : ¬ 9223372036854775807 < X.size + 1 := by omega
 have m1 : ¬ 9223372036854775807 < X.size + 1 + S5.size := by omega
 have m2 : ¬ 9223372036854775807 < X.size + 1 + S5.size + 1 := by omega
 have m3 : ¬ 9223372036854775807 < X.size + 1 + S5.size + 1 + S6.size := by omega
 have m4 : ¬ 9223372036854775807 < X.size + 1 + S5.size + 1 + S6.size + 1 := by omega
 have m5 : ¬ 9223372036854775807 < X.size + 1 + S5.size + 1 + S6.size + 1 + S7.size := by omega
 have m6 : ¬ 9223372036854775807 < X.size + 1 + S5.size + 1 + S6.size + 1 + S7.size + 1 := by omega
 have m7 : ¬ 9223372036854775807 < X.size + 1 + S5.size + 1 + S6.size + 1 + S7.size + 1 + S8.size := by omega
 have m8 : ¬ 9223372036854775807 < X.size + 1 + S5.size + 1 + S6.size + 1 + S7.size + 1 + S8.size + 1 := by omega
 have m9 : ¬ 9223372036854775807 < X.size + 1 + S5.size + 1 + S6.size + 1 + S7.size + 1 + S8.size + 1 + S9.size := by omega
 have m10 : ¬ 9223372036854775807 < X.size + 1 + S5.size + 1 + S6.size + 1 + S7.size + 1 + S8.size + 1 + S9.size + 1 := by omega
 have m11 : ¬ 9223372036854775807 < X.size + 1 + S5.size + 1 + S6.size + 1 + S7.size + 1 + S8.size + 1 + S9.size + 1 + S0.size := by omega
 go_wp2_with fail
 refine wp_region_quiet_below hm (by kernel_rfl) ?_
 repeat (quiet_step (fail))
 quiet_step (exact c5.out _ _ _)
 repeat (quiet_step (fail))
 quiet_step (exact c6.out _ _ _)
 repeat (quiet_step (fail))
 quiet_step (exact c7.out _ _ _)
 repeat (quiet_step (fail))
 quiet_step (exact c8.out _ _ _)
 repeat (quiet_step (fail))
 quiet_step (exact c9.out _ _ _)
 repeat (quiet_step (fail))
 quiet_step (exact c0.out _ _ _)
 repeat (quiet_step (fail))
 refine wpQuiet_nil ?_
 intro _ hw'
 obtain ⟨⟨dq2, osq2⟩, hw''⟩ := hw'
 subst hw''
 have hbq2 := below_regrown w2 dq2 osq2
 go_wp2_with fail
 go_ret
 refine ⟨?_, HBQ.out.trans (hbq2.mono HBQ.out.size)⟩
 rw [← HX.out]
 rfl
end
section
open Go.RowKit
def setTo (b : ByteArray) (TS : Nat → ByteArray) : Nat → ByteArray
 | 0 => ⟨#[98, 117, 114, 115, 116, 32]⟩ ++ b ++ ⟨#[10]⟩
 | k + 1 => setTo b TS k ++ TS k ++ ⟨#[10]⟩
theorem setTo_size (b : ByteArray) (TS : Nat → ByteArray) (hb : b.size ≤ 2) (k : Nat) (h : ∀ i, i < k → (TS i).size ≤ 100) : (setTo b TS k).size ≤ 9 + k * 101 := by
 induction k with
 | zero => unfold setTo; simp only [ByteArray.size_append]; rw [show (⟨#[98, 117, 114, 115, 116, 32]⟩ : ByteArray).size = 6 from rfl, show (⟨#[10]⟩ : ByteArray).size = 1 from rfl]; omega
 | succ k ih =>
  have h1 := ih fun i hi => h i (by omega)
  have h2 := h k (by omega)
  unfold setTo; simp only [ByteArray.size_append]; rw [show (⟨#[10]⟩ : ByteArray).size = 1 from rfl]; omega
set_option maxHeartbeats 1000000 in
set_option maxRecDepth 100000 in
theorem rset_any (B : Nat) (bu : Nat) (a : Option Addr) (n c : Nat) (tk : Nat → Tk) (TS : Nat → ByteArray) (w : World) (hx : TksIn B w a n tk) (hB : B ≤ w.heap.size) (hn : n ≤ 16) (hbu : bu < 100)
  (hT : ∀ k, k < n → ∀ w, Calls Tryz.prog 84 #[tkv (tk k)] w fun e w' => e = .returned (.string (TS k)) ∧ Below w.heap.size w w') (hs : ∀ i, i < n → (TS i).size ≤ 100) :
  Calls Tryz.prog 50 #[.agg #[.int .i64 bu, .slice a n c]] w fun e w' => e = .returned (.string (setTo (numS bu) TS n)) ∧ Below w.heap.size w w' := by
 obtain ⟨b0, e0⟩ : ∃ b, numS bu = b := ⟨_, rfl⟩
 have hb2 : b0.size ≤ 2 := e0 ▸ numS_size bu
 have HN := Lib.hid (fun w => number_any bu w hbu)
 rw [e0] at HN ⊢
 have hz := fun k (hk : k ≤ n) => setTo_size b0 TS hb2 k (fun i hi => hs i (by omega))
 have hb0 := bel_alloc (Below.refl w.heap.size w) (.cells #[.int .i64 bu, .slice a n c] 24)
 have hx1 := Lib.hid (hx.keep (hb0.mono hB))
 have hbox0 := cell_newb w #[.int .i64 bu, .slice a n c] 24 _ 0 _ rfl rfl
 have hbox1 := cell_newb w #[.int .i64 bu, .slice a n c] 24 _ 1 _ rfl rfl
 have hsz := one_lt w (.cells #[.int .i64 bu, .slice a n c] 24)
 have HT := Lib.hid hT
 have n1 : ¬ 9223372036854775807 < 6 + b0.size := by omega
 have n2 : ¬ 9223372036854775807 < 6 + b0.size + 1 := by omega
 clear hx hT e0
 generalize (bu : Int) = bu' at *
 go_enter Tryz.func50, Tryz.ntmps50
 go_wp2_with (go_at_call 83; refine (HN.out _).mono ?_; rintro e w2 ⟨rfl, g2⟩; have hb2' := g2.below; have hbx1 := cell_bel hb2' hbox1)
 have HB0 := Lib.hid (hb0.trans (hb2'.mono hb0.size))
 have HX := Lib.hid (hx1.out.keep (hb2'.mono (Nat.le_trans hB hb0.size)))
 clear hb0 hb2' g2 hbox0 hbox1 hx1
 have hst : setTo b0 TS 0 = ⟨#[98, 117, 114, 115, 116, 32]⟩ ++ b0 ++ ⟨#[10]⟩ := rfl
 go_loopw [4, 3] (fun ix s3 wx => ∃ k : Nat, k ≤ n ∧ ix = .int .i64 k ∧ s3 = .string (setTo b0 TS k) ∧ Hid (Below w2.heap.size w2 wx)) (fun ix _ _ => n - (intOf ix).toNat)
 case atStart => exact ⟨0, Nat.zero_le _, rfl, rfl, Below.refl _ _⟩
 case round =>
  obtain ⟨k, hk, rfl, rfl, HW⟩ := hrel
  have hbx := cell_bel HW.out hbx1
  by_cases hlt : k < n
  ·have hkI : (k : Int) < (n : Int) := by omega
   have hk0 : (0 : Int) ≤ (k : Int) := by omega
   have hdl : decide ((k : Int) < (n : Int)) = true := decide_eq_true hkI
   obtain ⟨b, off, rfl, hbB, hcc⟩ := HX.out (by omega)
   have hw2 : B ≤ w2.heap.size := Nat.le_trans hB HB0.out.size
   have hrg := rg_below (HW.out.mono hw2) hbB (hcc k hlt)
   have HC := Lib.hid (HT.out k hlt)
   have hz1 := hz k hk
   have hz2 := hs k hlt
   have hsz2 : (setTo b0 TS k ++ TS k).size = (setTo b0 TS k).size + (TS k).size := ByteArray.size_append
   have hstep : setTo b0 TS (k + 1) = setTo b0 TS k ++ TS k ++ ⟨#[10]⟩ := rfl
   have HST := Lib.hid hstep
   obtain ⟨X, hX⟩ : ∃ X, setTo b0 TS k = X := ⟨_, rfl⟩
   obtain ⟨Y, hY⟩ : ∃ X, TS k = X := ⟨_, rfl⟩
   rw [hX, hY] at HST
   rw [hX] at hz1
   rw [hY] at hz2 HC
   rw [hX]
   have m1 : ¬ 9223372036854775807 < X.size + Y.size := by omega
   have m2 : ¬ 9223372036854775807 < X.size + Y.size + 1 := by omega
   clear hcc hstep hsz2 hX hY hz
   go_wp2_with (first | (refine wpList_load_mid rfl 41 _ rfl b (off + k * 11) rfl (tkc (tk k)) _ hrg Tryz.underlying41 rfl Tryz.size41 ?_) | (go_at_call 84; refine (HC.out _).mono ?_; rintro e w3 ⟨rfl, hb3⟩))
   go_roundw
   case rel => exact ⟨k + 1, by omega, by simp, by rw [HST.out], HW.out.trans (hb3.mono HW.out.size)⟩
   case measure => simp [intOf]; omega
  ·have hkn : k = n := by omega
   subst hkn
   have hdl : decide ((k : Int) < (k : Int)) = false := decide_eq_false (by omega)
   clear hz
   go_wp2_with fail
   go_ret
   exact ⟨rfl, HB0.out.trans (HW.out.mono HB0.out.size)⟩
theorem cell_rowb (w : World) (cs : Array Value) (T : TypeId) (r : Nat × Nat) (b j : Nat) (u : Value) (hb : b = w.heap.size) (h : cs.toList[j]? = some u) : (w.alloc (.cells cs T r)).cell? ⟨b, j, none⟩ = some u := by
 subst hb
 have h' : cs[j]? = some u := by simpa using h
 show (match (w.heap.push (.cells cs T r))[w.heap.size]? with | some (.cells c _ _) => if (none : Option Nat).isSome then none else c[j]? | _ => none) = some u
 simp [h']
def BytesIn (w : World) (b off : Nat) (l : List Int) : Prop := ∀ j (h : j < l.length), w.cell? ⟨b, off + j, none⟩ = some (.int .u8 l[j])
theorem bytesRow_at (l : List Int) (cap j : Nat) (h : j < l.length) (hl : ∀ x ∈ l, 0 ≤ x ∧ x < 256) : (bytesRow (strOfNums l) cap).toList[j]? = some (.int .u8 l[j]) := by
 unfold bytesRow strOfNums
 simp only [Array.toList_append, Array.toList_map, List.map_map]
 rw [List.getElem?_append_left (by simpa using h), List.getElem?_map, List.getElem?_eq_getElem h]
 have := hl l[j] (List.getElem_mem h)
 simp only [Option.map_some, Function.comp]
 congr 2
 have h2 : (UInt8.ofNat l[j].toNat).toNat = l[j].toNat := by rw [UInt8.toNat_ofNat']; omega
 rw [h2]; omega
set_option maxHeartbeats 1000000 in
theorem text_any (B : Nat) (bu : Nat) (a : Option Addr) (n c : Nat) (tk : Nat → Tk) (TS : Nat → ByteArray) (w : World) (hx : TksIn B w a n tk) (hB : B ≤ w.heap.size) (hn : n ≤ 16) (hbu : bu < 100)
  (hT : ∀ k, k < n → ∀ w, Calls Tryz.prog 84 #[tkv (tk k)] w fun e w' => e = .returned (.string (TS k)) ∧ Below w.heap.size w w') (hs : ∀ i, i < n → (TS i).size ≤ 100) (l : List Int) (hl : ∀ x ∈ l, 0 ≤ x ∧ x < 256) (hS : setTo (numS bu) TS n = strOfNums l) :
  Calls Tryz.prog 23 #[.agg #[.int .i64 bu, .slice a n c]] w fun e w' => (∃ b cp, e = .returned (.slice (some ⟨b, 0, none⟩) l.length cp) ∧ w.heap.size ≤ b ∧ b < w'.heap.size ∧ BytesIn w' b 0 l) ∧ Below w.heap.size w w' := by
 have hb0 := bel_alloc (Below.refl w.heap.size w) (.cells #[.int .i64 bu, .slice a n c] 24)
 have H := Lib.hid (rset_any B bu a n c tk TS (w.alloc (.cells #[.int .i64 bu, .slice a n c] 24)) (hx.keep (hb0.mono hB)) (Nat.le_trans hB hb0.size) hn hbu hT hs)
 have HB := Lib.hid hb0
 have hcv := fun w s => run_bytes_of_string (P := Tryz.prog) w 9 72 5 s Tryz.underlying9 Tryz.underlying72 Tryz.underlying5
 clear hx hT hb0
 go_enter Tryz.func23, Tryz.ntmps23
 go_wp2_with (go_at_call 50; refine H.out.mono ?_; rintro e w2 ⟨rfl, hb2⟩)
 rw [strOfNums_size]
 go_ret
 have h3 := HB.out.trans (hb2.mono HB.out.size)
 exact ⟨⟨w2.heap.size, _, rfl, h3.size, by simp, fun j hj => by rw [World.cell?_drew, Nat.zero_add]; exact cell_rowb _ _ _ _ _ _ _ rfl (bytesRow_at l _ j hj hl)⟩, bel_drew (bel_alloc h3 _)⟩
end
section
open Go.RowKit
theorem Tryz.info5 : (Tryz.prog.info? 5).map (fun i => (i.zero, i.size, i.bytes)) = some (some (.int .u8 0), 1, 1) := by kernel_rfl
def u8s (l : List Int) : List Value := l.map (Value.int .u8)
set_option maxHeartbeats 1000000 in
theorem clone_b (b n c : Nat) (l : List Int) (w : World) (hl : l.length = n) (h0 : 0 < n) (hn : n ≤ 1000) (hx : BytesIn w b 0 l) :
  Calls Tryz.prog 49 #[.slice (some ⟨b, 0, none⟩) n c] w fun e w' => ∃ v, e = .returned v ∧ w'.ownsRow w.heap.size 5 1 v n (u8s l) ∧ Below w.heap.size w w' := by
 have R := fun w : World => Lib.run_eql_slice_nil (P := Tryz.prog) w 72 5 (some ⟨b, 0, none⟩) n c 0 0 Tryz.underlying72
 obtain ⟨i0, ki, kz0, kz1, kz2⟩ := info_parts Tryz.info5
 have HS : Hid (Src (w.alloc (.cells #[] 5)) (.slice (some ⟨b, 0, none⟩) n c) n (u8s l)) := .inr ⟨⟨b, 0, none⟩, c, rfl, fun j u hu => by
  unfold u8s at hu
  have hj : j < l.length := by
   have := (List.getElem?_eq_some_iff.1 hu).1
   simpa using this
  rw [List.getElem?_map, List.getElem?_eq_getElem hj] at hu
  simp only [Option.map_some, Option.some.injEq] at hu
  subst hu
  have := hx j hj
  rw [add_none]
  exact cell_bel (bel_alloc (Below.refl _ _) _) this⟩
 have hlen : (u8s l).length = n * 1 := by unfold u8s; rw [List.length_map, hl]; omega
 have hone : ∀ u ∈ u8s l, u.oneCell' = true := fun u hu => by
  unfold u8s at hu
  obtain ⟨x, _, rfl⟩ := List.mem_map.1 hu
  rfl
 clear hx
 go_enter Tryz.func49, Tryz.ntmps49
 go_wp2_with (at_builtin; refine wpList_append_row rfl _ _ 72 rfl w.heap.size 5 i0 _ 1 1 Tryz.underlying72 ki kz0 kz1 kz2 rfl (by omega) (.slice (some ⟨w.heap.size, 0, none⟩) 0 0) 0 [] rfl (World.ownsRow_lit (size := 1) (e := 5) w #[] 0 (Nat.le_refl _) (Nat.zero_le _) rfl) _ n (u8s l) rfl hlen HS.out hone (by unfold maxLen; omega) (by omega) (by simp) ?_)
 intro v5 w5 hown5 hg5 _
 have HO5 := Lib.hid hown5
 have HB5 : Hid (Below w.heap.size w w5) := Below.grown ((Below.refl _ w).alloc (Nat.le_refl _) _) hg5 (by simp) fun k e => by simp [Value.ownBlock] at e; omega
 clear hown5 hg5
 go_wp2_with fail
 go_ret
 exact ⟨v5, rfl, by simpa using HO5.out, HB5.out⟩
def adm0 (v : Value) : Array Value := #[v, .int .u32 0, .int .i32 0, .int .u32 0, .int .i64 0, .int .i64 0, .slice none 0 0, .int .i64 0, .int .i64 0, .int .i64 0, .int .i64 0, .bool false, .int .i64 0, .slice none 0 0, .int .i64 0]
theorem BytesIn.keep {T : Nat → Prop} {w w' : World} {b off : Nat} {l : List Int} (h : BytesIn w b off l) (h0 : 0 < l.length) (hf : Fr T w w') (hT : ¬ T b) : BytesIn w' b off l := fun j hj =>
 (hf.cell (p := ⟨b, off + j, none⟩) (block_lt (h j hj)) hT).trans (h j hj)
set_option maxHeartbeats 1000000 in
set_option maxRecDepth 100000 in
theorem anew_any (b n c : Nat) (l : List Int) (w : World) (hl : l.length = n) (h0 : 0 < n) (hn : n ≤ 1000) (hx : BytesIn w b 0 l) :
  Calls Tryz.prog 22 #[.slice (some ⟨b, 0, none⟩) n c] w fun e w' => ∃ tb tc ab w1, e = .returned (.pointer (some ⟨ab, 0, none⟩)) ∧ w' = w1.alloc (.cells (adm0 (.slice (some ⟨tb, 0, none⟩) n tc)) 132) ∧ ab = w1.heap.size ∧ w.heap.size ≤ tb ∧ tb < w1.heap.size ∧ n ≤ tc ∧ BytesIn w1 tb 0 l ∧ Below w.heap.size w w1 := by
 have H := Lib.hid (clone_b b n c l w hl h0 hn hx)
 clear hx
 go_enter Tryz.func22, Tryz.ntmps22
 go_wp2_with (go_at_call 49; refine H.out.mono ?_; rintro e w2 ⟨v, rfl, ho, hb2⟩; obtain ⟨g, cap, rfl, hg1, hg2, hg3, hg4, hg5⟩ := ownsRow_cells ho h0)
 go_ret
 refine ⟨g, cap, _, w2, rfl, rfl, rfl, hg1, hg2, hg3, fun j hj => ?_, hb2⟩
 rw [Nat.zero_add]
 refine hg4 j _ ?_
 unfold u8s
 rw [List.getElem?_map, List.getElem?_eq_getElem hj]
 rfl
end
end Go.Proofs.YtnoahekcemfmcaaGreatDoor
