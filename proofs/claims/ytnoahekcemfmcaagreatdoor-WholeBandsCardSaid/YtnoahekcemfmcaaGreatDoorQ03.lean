/- A part of the walk: Sched3 Va W1 Dl. -/
import Derived.Test.YtnoahekcemfmcaaGreatDoorQ02
import Derived.Test.YtnoahekcemfmcaaGreatDoorProg
import Derived.Test.YtnoahekcemfmcaaGreatDoorQ01
import Derived.Deep.DeepCutAuto
import Derived.Deep.QuietTactic
import Derived.BigQuiet
import Derived.RegionTactic
import Derived.Deep.RegionHeld3
import Derived.Deep.RegionLaw
import Derived.Deep.DrawnRows
import Derived.Sort.Grow
namespace Go.Proofs.YtnoahekcemfmcaaGreatDoor
set_option linter.unusedVariables false
set_option linter.unusedSimpArgs false
section
def ceilI (w t : Int) : Int := (w + t - 1) / t
def mostI (w b g : Int) : Int := if w = 0 then 0 else (w + b - 1 + g - 1) / g
def Fc (σ : Nat → Bool) (t : Nat) : Int := S (fun k => if σ k = true then 1 else 0) t
def nextW (tk : Nat → Tk) (n i : Nat) (b g ahead dear w : Int) : Int :=
 wholeT (tk i) + ahead + S (fun k => if (tk k).Prio < (tk i).Prio then ceilI w (tk k).T * wholeT (tk k) else 0) n + b * dear * mostI w b g
structure An (tk : Nat → Tk) (n i : Nat) (b g R ahead dear : Int) : Prop where
 i_lt : i < n
 ok : ∀ k, k < n → (tk k).Ok
 pd : ∀ k l, k < n → l < n → k ≠ l → (tk k).Prio ≠ (tk l).Prio
 de : ∀ k, k < n → (tk k).Prio ≤ (tk i).Prio ∨ (tk k).Mode = 3 → extraT (tk k) ≤ dear
 ah : ∀ k, k < n → (tk i).Prio ≤ (tk k).Prio → (tk k).Mode = 3 → extraT (tk k) ≤ ahead
 a0 : 0 ≤ ahead
 d0 : 0 ≤ dear
 b0 : 0 ≤ b
 r1 : 1 ≤ R
 rd : R ≤ (tk i).D
 fx : nextW tk n i b g ahead dear R = R
def hpE (tk : Nat → Tk) (i k : Nat) (j : Jb) : Bool := j.must && (decide ((tk k).Prio < (tk i).Prio) || urg (tk k) j)
def hpJ (tk : Nat → Tk) (i k : Nat) (j : Jb) : Bool := j.must && (decide ((tk k).Prio < (tk i).Prio) || urg (tk k) j || decide (k = i))
def wt (tk : Nat → Tk) (E : Nat → Jb → Bool) (s : St) (k : Nat) : Int :=
 match s.job k with
 | none => 0
 | some j => if E k j = true then bud (tk k) j else 0
def Phi (tk : Nat → Tk) (n : Nat) (E : Nat → Jb → Bool) (s : St) : Int := S (wt tk E s) n
def sumW (tk : Nat → Tk) (n i : Nat) (c : Nat → Int) : Int := S (fun k => if (tk k).Prio < (tk i).Prio then c k * wholeT (tk k) else 0) n
section
variable {tk : Nat → Tk} {n i : Nat} {b g R ahead dear : Int} {σ : Nat → Bool}
structure Win (tk : Nat → Tk) (n i : Nat) (R ahead dear : Int) (σ : Nat → Bool) (E : Nat → Jb → Bool) (ex : Int) (s : St) (t0 : Nat) (c0 : Nat → Int) : Prop where
 t : t0 ≤ s.now
 r : (s.now : Int) - t0 < R
 c : ∀ k, k < n → c0 k ≤ s.cnt k ∧ (c0 k < s.cnt k → (t0 : Int) + (s.cnt k - c0 k) * (tk k).T ≤ s.opn k)
 p : Phi tk n E s + ((s.now : Int) - t0) ≤ ahead + ex + sumW tk n i (fun k => s.cnt k - c0 k) + dear * (Fc σ s.now - Fc σ t0)
def W1 (tk : Nat → Tk) (n i : Nat) (R ahead dear : Int) (σ : Nat → Bool) (s : St) : Prop := ∃ t0 c0, Win tk n i R ahead dear σ (hpE tk i) 0 s t0 c0
def W2 (tk : Nat → Tk) (n i : Nat) (R ahead dear : Int) (σ : Nat → Bool) (s : St) : Prop :=
 ∀ J, s.job i = some J → J.must = true → ∃ t0 c0, t0 ≤ J.rel ∧ Win tk n i R ahead dear σ (hpJ tk i) (wholeT (tk i)) s t0 c0
end
end
def maxS (f : Nat → Int) : Nat → Int
 | 0 => 0
 | k + 1 => max (maxS f k) (f k)
theorem maxS_nonneg (f : Nat → Int) (n : Nat) : 0 ≤ maxS f n := by
 induction n with
 | zero => exact Int.le_refl _
 | succ n ih => unfold maxS; omega
theorem maxS_le {f : Nat → Int} {n : Nat} {c : Int} (hc : 0 ≤ c) (h : ∀ k, k < n → f k ≤ c) : maxS f n ≤ c := by
 induction n with
 | zero => exact hc
 | succ n ih => have := ih fun k hk => h k (by omega); have := h n (by omega); unfold maxS; omega
def dearF (tk : Nat → Tk) (i k : Nat) : Int := if (tk k).Prio ≤ (tk i).Prio ∨ (tk k).Mode = 3 then extraT (tk k) else 0
def aheadF (tk : Nat → Tk) (i k : Nat) : Int := if (tk i).Prio ≤ (tk k).Prio ∧ (tk k).Mode = 3 then extraT (tk k) else 0
def dearS (tk : Nat → Tk) (n i : Nat) : Int := maxS (dearF tk i) n
def aheadS (tk : Nat → Tk) (n i : Nat) : Int := maxS (aheadF tk i) n
theorem extra_bd {t : Tk} (ht : t.Ok) : 0 ≤ extraT t ∧ extraT t ≤ 1049576 := by
 have h0 := ht.k0; have h1 := ht.k1; have h2 := ht.cd; have h3 := ht.dt; have h4 := ht.tm
 unfold extraT
 by_cases hm : t.Mode = 1
 ·rw [if_pos hm]; have := ht.r1 hm; omega
 ·rw [if_neg hm]; have := ht.r2 hm; omega
theorem whole_bd {t : Tk} (ht : t.Ok) : 0 ≤ wholeT t ∧ wholeT t ≤ 1049624576 := by
 have h0 := ht.k0; have h1 := ht.k1; have h2 := ht.cd; have h3 := ht.dt; have h4 := ht.tm; have hc := ht.c1
 unfold wholeT
 by_cases hm : t.Mode = 1
 ·rw [if_pos hm]
  have hr := ht.r1 hm
  have e1 : 0 ≤ (t.C + t.Seg - 1) / t.Seg := Int.ediv_nonneg (by omega) (by omega)
  have e2 : (t.C + t.Seg - 1) / t.Seg ≤ t.C := by
   rw [Int.ediv_le_iff_le_mul (by omega)]
   have : t.C * t.Seg + (t.Seg - 1) ≥ t.C + t.Seg - 1 := by
    have : t.C * 1 ≤ t.C * t.Seg := Int.mul_le_mul_of_nonneg_left (by omega) (by omega)
    omega
   omega
  have e3 : (t.C + t.Seg - 1) / t.Seg * t.Cost ≤ t.C * 1000 := Int.mul_le_mul e2 h1 h0 (by omega)
  have e4 : 0 ≤ (t.C + t.Seg - 1) / t.Seg * t.Cost := Int.mul_nonneg e1 h0
  omega
 ·rw [if_neg hm]; omega
theorem dear_bd {tk : Nat → Tk} {n : Nat} (hok : ∀ k, k < n → (tk k).Ok) (i : Nat) : 0 ≤ dearS tk n i ∧ dearS tk n i ≤ 1049576 :=
 ⟨maxS_nonneg _ _, maxS_le (by omega) fun k hk => by unfold dearF; have := extra_bd (hok k hk); split <;> omega⟩
theorem ahead_bd {tk : Nat → Tk} {n : Nat} (hok : ∀ k, k < n → (tk k).Ok) (i : Nat) : 0 ≤ aheadS tk n i ∧ aheadS tk n i ≤ 1049576 :=
 ⟨maxS_nonneg _ _, maxS_le (by omega) fun k hk => by unfold aheadF; have := extra_bd (hok k hk); split <;> omega⟩
section
open Go.RowKit
attribute [local go_sem ↓] Go.wp_at_zero Go.wp_at_succ
def cmp3 (a b : Int) : Int := if a < b then -1 else if b < a then 1 else 0
theorem nan_any (a : Int) (w : World) : Calls Tryz.prog 112 #[.int .i64 a] w fun e w' => e = .returned (.bool false) ∧ w = w' := by
 go_enter Tryz.func112, Tryz.ntmps112
 go_wp2
 go_ret
 exact ⟨by simp, rfl⟩
set_option maxHeartbeats 400000 in
theorem compare_any (a b : Int) (w : World) : Calls Tryz.prog 81 #[.int .i64 a, .int .i64 b] w fun e w' => e = .returned (.int .i64 (cmp3 a b)) ∧ w = w' := by
 unfold cmp3
 by_cases h1 : a < b
 ·rw [if_pos h1]
  go_enter Tryz.func81, Tryz.ntmps81
  go_wp2_with (go_at_call 112; refine (nan_any _ _).mono ?_; rintro e w' ⟨rfl, rfl⟩)
  go_ret
  exact ⟨rfl, rfl⟩
 ·rw [if_neg h1]
  by_cases h2 : b < a
  ·rw [if_pos h2]
   go_enter Tryz.func81, Tryz.ntmps81
   go_wp2_with (go_at_call 112; refine (nan_any _ _).mono ?_; rintro e w' ⟨rfl, rfl⟩)
   go_ret
   exact ⟨rfl, rfl⟩
  ·rw [if_neg h2]
   go_enter Tryz.func81, Tryz.ntmps81
   go_wp2_with (go_at_call 112; refine (nan_any _ _).mono ?_; rintro e w' ⟨rfl, rfl⟩)
   go_ret
   exact ⟨rfl, rfl⟩
def orL : List Int → Int
 | [] => 0
 | x :: l => if x = 0 then orL l else x
theorem orL_drop (l : List Int) (k : Nat) (h : ∀ j (hj : j < l.length), j < k → l[j] = 0) : orL l = orL (l.drop k) := by
 induction k generalizing l with
 | zero => rfl
 | succ k ih =>
  cases l with
  | nil => rfl
  | cons x l =>
   have hx : x = 0 := h 0 (by simp) (by omega)
   simp only [orL, hx, if_true, List.drop_succ_cons]
   exact ih l fun j hj hk => h (j + 1) (by simp; omega) (by omega)
set_option maxHeartbeats 1000000 in
theorem or_any (b n : Nat) (l : List Int) (w : World) (hl : l.length = n) (hn : n ≤ 100) (hc : ∀ j (h : j < l.length), w.cell? ⟨b, j, none⟩ = some (.int .i64 l[j])) :
  Calls Tryz.prog 187 #[.slice (some ⟨b, 0, none⟩) n n] w fun e w' => e = .returned (.int .i64 (orL l)) ∧ w = w' := by
 have HC := Lib.hid hc; clear hc
 go_enter Tryz.func187, Tryz.ntmps187
 go_wp2_with fail
 go_loop [8] (fun i => ∃ k : Nat, k ≤ n ∧ i = .int .i64 k ∧ Hid (∀ j (hj : j < l.length), j < k → l[j] = 0)) (fun i => n - (intOf i).toNat)
 case atStart => exact ⟨0, by omega, rfl, fun j hj hk => by omega⟩
 case round =>
  obtain ⟨k, hk, rfl, HH⟩ := hrel
  by_cases hlt : k < n
  ·have hcell := HC.out k (by omega)
   obtain ⟨x, hx⟩ : ∃ x, l[k] = x := ⟨_, rfl⟩
   rw [hx] at hcell
   have Hx := Lib.hid hx; clear hx
   have hkI : (k : Int) < (n : Int) := by omega
   by_cases h0 : x = 0
   ·subst h0
    have HN : Hid (∀ j (hj : j < l.length), j < k + 1 → l[j] = 0) := by
     intro j hj hjk
     rcases Nat.lt_or_ge j k with h | h
     ·exact HH.out j hj h
     ·obtain rfl : j = k := by omega
      exact Hx.out
    go_wp2_with fail
    go_round
    case rel => exact ⟨k + 1, by omega, by go_num, HN⟩
    case measure => simp [intOf]; omega
   ·have hxn : (x != 0) = true := by simp [h0]
    have E : Hid (orL l = x) := by
     show _ = _
     rw [orL_drop l k HH.out, List.drop_eq_getElem_cons (by omega), Hx.out]
     simp [orL, h0]
    clear h0
    go_wp2_with fail
    go_ret
    exact ⟨ret_int E.out.symm, rfl⟩
  ·obtain rfl : k = n := by omega
   have E : Hid (orL l = 0) := by
    show _ = _
    rw [orL_drop l k HH.out, List.drop_eq_nil_of_le (by omega)]; rfl
   go_wp2_with fail
   go_ret
   exact ⟨ret_int E.out.symm, rfl⟩
def cmpK (x y : Q) : Int := orL [cmp3 x.1 y.1, cmp3 x.2.1 y.2.1, cmp3 x.2.2.1 y.2.2.1, cmp3 x.2.2.2 y.2.2.2]
set_option maxHeartbeats 2000000 in
theorem cmpK_any (x y : Q) (w : World) : Calls Tryz.prog 149 #[qv x, qv y] w fun e w' => e = .returned (.int .i64 (cmpK x y)) ∧ ∃ q os', w' = Sort.grow (w.drewN q) os' := by
 obtain ⟨x0, x1, x2, x3⟩ := x
 obtain ⟨y0, y1, y2, y3⟩ := y
 unfold cmpK qv
 simp only
 have H1 := Lib.hid (fun w => compare_any x0 y0 w)
 have H2 := Lib.hid (fun w => compare_any x1 y1 w)
 have H3 := Lib.hid (fun w => compare_any x2 y2 w)
 have H4 := Lib.hid (fun w => compare_any x3 y3 w)
 generalize cmp3 x0 y0 = u0 at *
 generalize cmp3 x1 y1 = u1 at *
 generalize cmp3 x2 y2 = u2 at *
 generalize cmp3 x3 y3 = u3 at *
 obtain ⟨R, hR⟩ : ∃ R, orL [u0, u1, u2, u3] = R := ⟨_, rfl⟩
 rw [hR]
 have HO : Hid (∀ (W : World) (b : Nat), (∀ j u, [Value.int .i64 u0, Value.int .i64 u1, Value.int .i64 u2, Value.int .i64 u3][j]? = some u → W.cell? ⟨b, j, none⟩ = some u) → Calls Tryz.prog 187 #[.slice (some ⟨b, 0, none⟩) 4 4] W fun e w' => e = .returned (.int .i64 R) ∧ W = w') := by
  intro W b hc
  rw [← hR]
  refine or_any b 4 [u0, u1, u2, u3] _ rfl (by omega) fun j hj => ?_
  refine hc j _ ?_
  have : j = 0 ∨ j = 1 ∨ j = 2 ∨ j = 3 := by simp at hj; omega
  rcases this with rfl | rfl | rfl | rfl <;> rfl
 clear hR
 go_enter Tryz.func149, Tryz.ntmps149
 go_wp2_with fail
 go_region_held3 (fun w' => (w'.cell? ⟨w.heap.size, 0, none⟩ = some (.int .i64 x0) ∧ w'.cell? ⟨w.heap.size, 1, none⟩ = some (.int .i64 x1) ∧ w'.cell? ⟨w.heap.size, 2, none⟩ = some (.int .i64 x2) ∧ w'.cell? ⟨w.heap.size, 3, none⟩ = some (.int .i64 x3)) ∧ w'.cell? ⟨w.heap.size + 1, 0, none⟩ = some (.int .i64 y0) ∧ w'.cell? ⟨w.heap.size + 1, 1, none⟩ = some (.int .i64 y1) ∧ w'.cell? ⟨w.heap.size + 1, 2, none⟩ = some (.int .i64 y2) ∧ w'.cell? ⟨w.heap.size + 1, 3, none⟩ = some (.int .i64 y3)) (go_keep)
  (first | (go_at_call 81; (first | ((with_reducible refine (H1.out _).mono ?_); rintro e w1 ⟨rfl, rfl⟩) | ((with_reducible refine (H2.out _).mono ?_); rintro e w1 ⟨rfl, rfl⟩) | ((with_reducible refine (H3.out _).mono ?_); rintro e w1 ⟨rfl, rfl⟩) | ((with_reducible refine (H4.out _).mono ?_); rintro e w1 ⟨rfl, rfl⟩))) | (go_at_call 187; refine Calls.mono (HO.out _ _ ?_) ?_; (intro j u hu; exact cell_newb _ _ _ _ j u (by simp) hu); rintro e w1 ⟨rfl, rfl⟩))
 go_wp2_with fail
 go_ret
 exact ⟨rfl, 1, #[.cells #[.int .i64 x0, .int .i64 x1, .int .i64 x2, .int .i64 x3] 166, .cells #[.int .i64 y0, .int .i64 y1, .int .i64 y2, .int .i64 y3] 166, .cells #[.int .i64 u0, .int .i64 u1, .int .i64 u2, .int .i64 u3] 3], by simp only [Sort.alloc_eq_grow, Sort.grow_grow]; rfl⟩
end
section
open Go.RowKit
def IntsIn (B : Nat) (w : World) (a : Option Addr) (n : Nat) (xs : List Int) : Prop :=
 xs.length = n ∧ (0 < n → ∃ b off, a = some ⟨b, off, none⟩ ∧ b < B ∧ ∀ j (h : j < xs.length), w.cell? ⟨b, off + j, none⟩ = some (.int .i64 xs[j]))
theorem IntsIn.keep {w w' : World} {a : Option Addr} {n B : Nat} {xs : List Int} (h : IntsIn B w a n xs) (hb : Below B w w') : IntsIn B w' a n xs :=
 ⟨h.1, fun hn => by
  obtain ⟨b, off, e, hlt, hc⟩ := h.2 hn
  exact ⟨b, off, e, hlt, fun j hj => (hb.cell (p := ⟨b, off + j, none⟩) hlt).trans (hc j hj)⟩⟩
structure Gate where
 apart : Int
 opn : Int
 count : Int
deriving Inhabited, DecidableEq
def Gate.cells (g : Gate) : List Value := [.int .i64 g.apart, .int .i64 g.opn, .int .i64 g.count]
structure GuardAt (w : World) (p q cap N : Nat) (gs : List Gate) : Prop where
 fld : w.cell? ⟨p, 0, none⟩ = some (.slice (some ⟨q, 0, none⟩) gs.length cap)
 ffld : w.frozen? ⟨p, 0, none⟩ = false
 len : gs.length ≤ 16
 capl : gs.length ≤ cap
 ap : ∀ i (h : i < gs.length), w.cell? ⟨q, i * 3, none⟩ = some (.int .i64 gs[i].apart)
 opn : ∀ i (h : i < gs.length), w.cell? ⟨q, i * 3 + 1, none⟩ = some (.int .i64 gs[i].opn)
 ct : ∀ i (h : i < gs.length), w.cell? ⟨q, i * 3 + 2, none⟩ = some (.int .i64 gs[i].count)
 fr : ∀ o, w.frozen? ⟨q, o, none⟩ = false
 ne : p ≠ q
 p1 : p < w.heap.size
 q1 : q < w.heap.size
 rng : ∀ g ∈ gs, 1 ≤ g.apart ∧ g.apart ≤ 1048576 ∧ 0 ≤ g.opn ∧ g.opn ≤ 1099512676352 ∧ 0 ≤ g.count ∧ g.count ≤ N
def goStep (gs : List Gate) (i t : Int) : Int × List Gate :=
 if i < 0 ∨ gs.length ≤ i ∨ t < 0 ∨ 1099511627776 < t then (1, gs)
 else if t < (gs.getD i.toNat default).opn then (6, gs)
 else (0, gs.set i.toNat { (gs.getD i.toNat default) with opn := t + (gs.getD i.toNat default).apart, count := (gs.getD i.toNat default).count + 1 })
def countF (gs : List Gate) (i : Int) : Int := if 0 ≤ i ∧ i < gs.length then (gs.getD i.toNat default).count else 0
theorem GuardAt.keep {w w' : World} {p q cap N : Nat} {gs : List Gate} {S : Nat → Prop} (h : GuardAt w p q cap N gs) (hf : Fr S w w') (hp : ¬ S p) (hq : ¬ S q) : GuardAt w' p q cap N gs where
 fld := by rw [hf.cell (p := ⟨p, 0, none⟩) h.p1 hp]; exact h.fld
 ffld := by rw [hf.frozen (p := ⟨p, 0, none⟩) h.p1 hp]; exact h.ffld
 len := h.len
 capl := h.capl
 ap := fun i hi => by rw [hf.cell (p := ⟨q, i * 3, none⟩) h.q1 hq]; exact h.ap i hi
 opn := fun i hi => by rw [hf.cell (p := ⟨q, i * 3 + 1, none⟩) h.q1 hq]; exact h.opn i hi
 ct := fun i hi => by rw [hf.cell (p := ⟨q, i * 3 + 2, none⟩) h.q1 hq]; exact h.ct i hi
 fr := fun o => by rw [hf.frozen (p := ⟨q, o, none⟩) h.q1 hq]; exact h.fr o
 ne := h.ne
 p1 := Nat.lt_of_lt_of_le h.p1 hf.size
 q1 := Nat.lt_of_lt_of_le h.q1 hf.size
 rng := h.rng
theorem GuardAt.more {w : World} {p q cap N M : Nat} {gs : List Gate} (h : GuardAt w p q cap N gs) (hN : N ≤ M) : GuardAt w p q cap M gs :=
 { h with rng := fun g hg => by have := h.rng g hg; omega }
theorem GuardAt.put {w : World} {p q cap N : Nat} {gs : List Gate} (h : GuardAt w p q cap N gs) (i : Nat) (hi : i < gs.length) (o c : Int)
  (ho : 0 ≤ o) (ho' : o ≤ 1099512676352) (hc : 0 ≤ c) (hc' : c ≤ (N : Int) + 1) :
  GuardAt ((w.setCell ⟨q, i * 3 + 1, none⟩ (.int .i64 o)).setCell ⟨q, i * 3 + 2, none⟩ (.int .i64 c)) p q cap (N + 1) (gs.set i { gs[i] with opn := o, count := c }) := by
 have e : ∀ {a b : Nat}, a ≠ b → (⟨q, a, none⟩ : Addr) ≠ ⟨q, b, none⟩ := fun hab e => hab (by cases e; rfl)
 have ep : ∀ {a b : Nat}, (⟨q, a, none⟩ : Addr) ≠ ⟨p, b, none⟩ := fun e => h.ne (by simp at e; exact e.1.symm)
 refine ⟨?_, ?_, ?_, ?_, ?_, ?_, ?_, ?_, h.ne, ?_, ?_, ?_⟩
 ·rw [World.cell?_setCell_other _ _ _ _ ep, World.cell?_setCell_other _ _ _ _ ep]; simpa using h.fld
 ·rw [World.frozen?_setCell, World.frozen?_setCell]; exact h.ffld
 ·simpa using h.len
 ·simpa using h.capl
 ·intro j hj
  have hj' : j < gs.length := by simpa using hj
  rw [World.cell?_setCell_other _ _ _ _ (e (by omega)), World.cell?_setCell_other _ _ _ _ (e (by omega)), h.ap j hj', List.getElem_set]
  split
  ·rename_i hh; subst hh; rfl
  ·rfl
 ·intro j hj
  have hj' : j < gs.length := by simpa using hj
  rw [World.cell?_setCell_other _ _ _ _ (e (by omega)), List.getElem_set]
  split
  ·rename_i hh; subst hh
   exact World.cell?_setCell_same _ _ _ (h.opn i hi)
  ·rw [World.cell?_setCell_other _ _ _ _ (e (by omega)), h.opn j hj']
 ·intro j hj
  have hj' : j < gs.length := by simpa using hj
  rw [List.getElem_set]
  split
  ·rename_i hh; subst hh
   exact World.cell?_setCell_same _ _ _ (by rw [World.cell?_setCell_other _ _ _ _ (e (by omega))]; exact h.ct i hi)
  ·rw [World.cell?_setCell_other _ _ _ _ (e (by omega)), World.cell?_setCell_other _ _ _ _ (e (by omega)), h.ct j hj']
 ·intro j; rw [World.frozen?_setCell, World.frozen?_setCell]; exact h.fr j
 ·simpa [World.setCell] using h.p1
 ·simpa [World.setCell] using h.q1
 ·intro g hg
  rcases List.mem_or_eq_of_mem_set hg with hg | rfl
  ·have := h.rng g hg; omega
  ·have := h.rng gs[i] (List.getElem_mem hi)
   simp only; omega
def newGates (xs : List Int) : List Gate := xs.map fun x => ⟨x, 0, 0⟩
theorem GuardAt.made {w : World} {p N base : Nat} {gs : List Gate} {v : Value} (hv : w.cell? ⟨p, 0, none⟩ = some v) (hf : w.frozen? ⟨p, 0, none⟩ = false) (hp : p < w.heap.size) (hb : p < base)
  (ho : w.ownsRow base 146 3 v gs.length (gs.flatMap Gate.cells)) (h1 : 1 ≤ gs.length) (h16 : gs.length ≤ 16)
  (hr : ∀ g ∈ gs, 1 ≤ g.apart ∧ g.apart ≤ 1048576 ∧ 0 ≤ g.opn ∧ g.opn ≤ 1099512676352 ∧ 0 ≤ g.count ∧ g.count ≤ N) :
  ∃ q cap, GuardAt w p q cap N gs ∧ base ≤ q := by
 obtain ⟨g, cap, rfl, hbg, hg, hc, hcell, hfz⟩ := ownsRow_cells ho h1
 have hat := fun i (hi : i < gs.length) j (hj : j < 3) => flatMap_at Gate.cells 3 (fun _ => rfl) gs i j hi hj
 exact ⟨g, cap, ⟨hv, hf, h16, hc, fun i hi => hcell (i * 3) _ (hat i hi 0 (by omega)), fun i hi => hcell (i * 3 + 1) _ (hat i hi 1 (by omega)), fun i hi => hcell (i * 3 + 2) _ (hat i hi 2 (by omega)), hfz, by omega, hp, hg, hr⟩, hbg⟩
set_option maxHeartbeats 400000 in
theorem has_any (p q cap N : Nat) (gs : List Gate) (i : Int) (w : World) (hg : GuardAt w p q cap N gs) :
  Calls Tryz.prog 96 #[.pointer (some ⟨p, 0, none⟩), .int .i64 i] w fun e w' => e = .returned (.bool (decide (0 ≤ i ∧ i < gs.length))) ∧ w = w' := by
 have hf := hg.fld
 have hl := hg.len
 clear hg
 generalize gs.length = n at hf hl ⊢
 go_enter Tryz.func96, Tryz.ntmps96
 go_wp2
 all_goals (go_ret; exact ⟨ret_bool (by simp; omega), rfl⟩)
set_option maxHeartbeats 400000 in
theorem time_any (i : Int) (w : World) :
  Calls Tryz.prog 141 #[.int .i64 i] w fun e w' => e = .returned (.bool (decide (0 ≤ i ∧ i ≤ 4611686018427387904))) ∧ w = w' := by
 go_enter Tryz.func141, Tryz.ntmps141
 go_wp2
 all_goals (go_ret; exact ⟨ret_bool (by simp; omega), rfl⟩)
set_option maxHeartbeats 400000 in
theorem add_fits (a b : Int) (w : World) (ha : 0 ≤ a) (ha' : a ≤ 1099511627776) (hb : 0 ≤ b) (hb' : b ≤ 1048576) :
  Calls Tryz.prog 97 #[.int .i64 a, .int .i64 b] w fun e w' => e = .returned (.tuple #[.int .i64 (a + b), .bool true]) ∧ w = w' := by
 go_enter Tryz.func97, Tryz.ntmps97
 go_wp2_with (go_at_call 141; refine (time_any _ _).mono ?_; rintro e w' ⟨rfl, rfl⟩)
 all_goals go_ret2
 all_goals exact ⟨rfl, rfl⟩
set_option maxHeartbeats 400000 in
theorem go_any (p q cap N : Nat) (gs : List Gate) (i t : Int) (w : World) (hg : GuardAt w p q cap N gs) (hN : N ≤ 1000000) :
  Calls Tryz.prog 63 #[.pointer (some ⟨p, 0, none⟩), .int .i64 i, .int .i64 t] w fun e w' =>
   e = .returned (.int .i64 (goStep gs i t).1) ∧ GuardAt w' p q cap (N + 1) (goStep gs i t).2 ∧ Fr (· = q) w w' := by
 by_cases h1 : i < 0 ∨ gs.length ≤ i ∨ t < 0 ∨ 1099511627776 < t
 ·rw [show goStep gs i t = (1, gs) from by unfold goStep; rw [if_pos h1]]
  have hh : decide (0 ≤ i ∧ i < gs.length) = false ∨ decide (0 ≤ i ∧ i < gs.length) = true := by cases decide (0 ≤ i ∧ i < gs.length) <;> simp
  have K := hg.more (M := N + 1) (by omega)
  have hl := hg.len
  go_enter Tryz.func63, Tryz.ntmps63
  go_wp2_with (go_at_call 96; refine (has_any p q cap N gs i _ hg).mono ?_; rintro e w' ⟨rfl, rfl⟩)
  all_goals (go_ret; exact ⟨rfl, K, Fr.refl _ _⟩)
 ·obtain ⟨k, rfl⟩ : ∃ k : Nat, i = (k : Int) := ⟨i.toNat, by omega⟩
  have hk : k < gs.length := by omega
  have ht : 0 ≤ t := by omega
  have ht' : t ≤ 1099511627776 := by omega
  have hkI : (k : Int) < (gs.length : Int) := by omega
  have hl := hg.len
  have hr := hg.rng gs[k] (List.getElem_mem hk)
  have c0 := hg.ap k hk
  have c1 := hg.opn k hk
  have c2 := hg.ct k hk
  have f1 := hg.fr (k * 3 + 1)
  have f2 := hg.fr (k * 3 + 2)
  have hf := hg.fld
  have P := Lib.hid (hg.put k hk)
  have K := hg.more (M := N + 1) (by omega)
  have E : Hid (goStep gs k t = if t < gs[k].opn then (6, gs) else (0, gs.set k { gs[k] with opn := t + gs[k].apart, count := gs[k].count + 1 })) := by
   show _ = _
   unfold goStep
   rw [if_neg h1]
   simp [List.getD_eq_getElem?_getD, hk]
  generalize hap : gs[k].apart = a at *
  generalize hop : gs[k].opn = o at *
  generalize hct : gs[k].count = c at *
  have HH := Lib.hid hap; clear hap
  have HH2 := Lib.hid hop; clear hop
  have HH3 := Lib.hid hct; clear hct
  clear h1
  by_cases he : t < o
  ·go_enter Tryz.func63, Tryz.ntmps63
   go_wp2_with (go_at_call 96; refine (has_any p q cap N gs k _ hg).mono ?_; rintro e w' ⟨rfl, rfl⟩)
   go_ret
   rw [E.out, if_pos he]
   exact ⟨rfl, K, Fr.refl _ _⟩
  ·have hoo : o ≤ t := by omega
   go_enter Tryz.func63, Tryz.ntmps63
   go_wp2_with (first | (go_at_call 96; refine (has_any p q cap N gs k _ hg).mono ?_; rintro e w' ⟨rfl, rfl⟩) | (go_at_call 97; refine (add_fits _ _ _ (by omega) (by omega) (by omega) (by omega)).mono ?_; rintro e w' ⟨rfl, rfl⟩))
   go_ret
   rw [E.out, if_neg (by omega)]
   exact ⟨rfl, (HH3.out ▸ P.out (t + a) (c + 1) (by omega) (by omega) (by omega) (by omega)), ((Fr.refl (· = q) _).setCell (p := ⟨q, _, none⟩) rfl _).setCell (p := ⟨q, _, none⟩) rfl _⟩
set_option maxHeartbeats 400000 in
theorem count_any (p q cap N : Nat) (gs : List Gate) (i : Int) (w : World) (hg : GuardAt w p q cap N gs) :
  Calls Tryz.prog 62 #[.pointer (some ⟨p, 0, none⟩), .int .i64 i] w fun e w' => e = .returned (.int .i64 (countF gs i)) ∧ w = w' := by
 unfold countF
 by_cases h1 : 0 ≤ i ∧ i < gs.length
 ·rw [if_pos h1]
  obtain ⟨k, rfl⟩ : ∃ k : Nat, i = (k : Int) := ⟨i.toNat, by omega⟩
  have hk : k < gs.length := by omega
  have hkI : (k : Int) < (gs.length : Int) := by omega
  have hl := hg.len
  have c1 := hg.ct k hk
  have hf := hg.fld
  have e : (gs.getD (k : Int).toNat default).count = gs[k].count := by simp [List.getD_eq_getElem?_getD, hk]
  rw [e]
  generalize gs[k].count = o at *
  clear e
  go_enter Tryz.func62, Tryz.ntmps62
  go_wp2_with (go_at_call 96; refine (has_any p q cap N gs k _ hg).mono ?_; rintro e w' ⟨rfl, rfl⟩)
  go_ret
  exact ⟨rfl, rfl⟩
 ·rw [if_neg h1]
  go_enter Tryz.func62, Tryz.ntmps62
  go_wp2_with (go_at_call 96; refine (has_any p q cap N gs i _ hg).mono ?_; rintro e w' ⟨rfl, rfl⟩)
  go_ret
  exact ⟨rfl, rfl⟩
def wrongN (n : Int) : Bool := decide (n < 1 ∨ 1048576 < n)
set_option maxHeartbeats 400000 in
theorem wrong_any (n : Int) (w : World) :
  Calls Tryz.prog 56 #[.int .i64 n] w fun e w' => e = .returned (.bool (wrongN n)) ∧ w = w' := by
 unfold wrongN
 go_enter Tryz.func56, Tryz.ntmps56
 go_wp2
 all_goals (go_ret; exact ⟨ret_bool (by simp <;> omega), rfl⟩)
set_option maxHeartbeats 400000 in
theorem indexFunc_any (B : Nat) (a : Option Addr) (n c : Nat) (xs : List Int) (w : World) (hx : IntsIn B w a n xs) (hn : n ≤ 9223372036854775807) :
  Calls Tryz.prog 93 #[.slice a n c, .func (.func 56) #[] #[]] w fun e w' => (∃ r : Int, e = .returned (.int .i64 r) ∧ (decide (0 ≤ r) = xs.any wrongN)) ∧ w = w' := by
 obtain ⟨hlen, hx⟩ := hx
 go_enter Tryz.func93, Tryz.ntmps93
 go_wp2_with fail
 go_loop [8] (fun i => ∃ k : Nat, k ≤ n ∧ i = .int .i64 k ∧ (xs.take k).any wrongN = false) (fun i => n - (intOf i).toNat)
 case atStart => exact ⟨0, Nat.zero_le _, rfl, by simp⟩
 case round =>
  obtain ⟨k, hk, rfl, hall⟩ := hrel
  have Hall := Lib.hid hall; clear hall
  by_cases hlt : k < n
  ·obtain ⟨b, off, rfl, hb, hc⟩ := hx (by omega)
   have c := hc k (by omega)
   have ht : (xs.take (k + 1)).any wrongN = ((xs.take k).any wrongN || wrongN xs[k]) := by
    rw [List.take_succ_eq_append_getElem (by omega), List.any_append]; simp
   rw [Hall.out] at ht
   have Ht := Lib.hid ht; clear ht
   have hm : xs[k] ∈ xs := List.getElem_mem _
   generalize xs[k] = x at *
   have Hx := Lib.hid hx
   clear hx hc
   cases hw : wrongN x
   ·rw [hw] at Ht
    have wa := fun w => wrong_any x w
    rw [hw] at wa
    have Hw := Lib.hid hw; clear hw
    go_wp2_with (go_at_call 56; refine (wa _).mono ?_; rintro e w' ⟨rfl, rfl⟩)
    go_round
    case rel => exact ⟨k + 1, by omega, by go_num, by rw [Ht.out]; rfl⟩
    case measure => simp [intOf]; omega
   ·have wa := fun w => wrong_any x w
    rw [hw] at wa
    have Hw := Lib.hid hw; clear hw
    go_wp2_with (go_at_call 56; refine (wa _).mono ?_; rintro e w' ⟨rfl, rfl⟩)
    go_ret
    exact ⟨⟨_, rfl, by rw [decide_eq_true (by omega)]; exact (List.any_eq_true.2 ⟨x, hm, Hw.out⟩).symm⟩, rfl⟩
  ·go_wp2
   go_ret
   exact ⟨⟨_, rfl, by have := Hall.out; rw [List.take_of_length_le (by omega)] at this; rw [this]; rfl⟩, rfl⟩
set_option maxHeartbeats 400000 in
theorem containsFunc_any (B : Nat) (a : Option Addr) (n c : Nat) (xs : List Int) (w : World) (hx : IntsIn B w a n xs) (hn : n ≤ 9223372036854775807) :
  Calls Tryz.prog 57 #[.slice a n c, .func (.func 56) #[] #[]] w fun e w' => e = .returned (.bool (xs.any wrongN)) ∧ w = w' := by
 go_enter Tryz.func57, Tryz.ntmps57
 go_wp2_with (go_at_call 93; refine (indexFunc_any B a n c xs _ hx hn).mono ?_; rintro e w' ⟨⟨r, rfl, hr⟩, rfl⟩; have Hr := Lib.hid hr; clear hr)
 all_goals (go_ret; exact ⟨ret_bool (by rw [← Hr.out]), rfl⟩)
theorem Tryz.info146 : (Tryz.prog.info? 146).map (fun i => (i.zero, i.size, i.bytes)) = some (some (.agg #[.int .i64 0, .int .i64 0, .int .i64 0]), 3, 24) := by kernel_rfl
def badNew (n : Nat) (xs : List Int) : Bool := decide (n < 1 ∨ 16 < n) || xs.any wrongN
set_option maxHeartbeats 400000 in
theorem new_good (B : Nat) (a : Option Addr) (n c : Nat) (xs : List Int) (w : World) (hx : IntsIn B w a n xs) (hn : n ≤ 9223372036854775807) (hb : badNew n xs = false) (hB : B ≤ w.heap.size) :
  Calls Tryz.prog 36 #[.slice a n c] w fun e w' => (∃ p q cap, e = .returned (.tuple #[.pointer (some ⟨p, 0, none⟩), .int .i64 0]) ∧ GuardAt w' p q cap 0 (newGates xs) ∧ w.heap.size ≤ p ∧ w.heap.size ≤ q) ∧ Below w.heap.size w w' := by
 have hc := fun w hx => containsFunc_any B a n c xs w hx hn
 obtain ⟨h1, hany⟩ : ¬ (n < 1 ∨ 16 < n) ∧ xs.any wrongN = false := by simpa [badNew] using hb
 rw [hany] at hc
 clear hb
 have Hany := Lib.hid hany; clear hany
 have h2 : 1 ≤ n := by omega
 have h3 : n ≤ 16 := by omega
 go_enter Tryz.func36, Tryz.ntmps36
 go_wp2_with (go_at_call 57; refine (hc _ hx).mono ?_; rintro e w' ⟨rfl, rfl⟩)
 clear hc
 obtain ⟨i0, hi, hz0, hz1, hz2⟩ := info_parts Tryz.info146
 go_loopw [25] (fun i wr => ∃ (k : Nat) (v : Value), k ≤ n ∧ i = .int .i64 k ∧ wr.cell? ⟨w.heap.size, 0, none⟩ = some v ∧ wr.frozen? ⟨w.heap.size, 0, none⟩ = false ∧ wr.ownsRow (w.heap.size + 1) 146 3 v k ((newGates (xs.take k)).flatMap Gate.cells) ∧ w.heap.size + 1 ≤ wr.heap.size ∧ Below w.heap.size w wr)
  (fun i _ => n - (intOf i).toNat)
 case atStart =>
  refine ⟨0, .slice none 0 0, Nat.zero_le _, rfl, by simp, by simp, World.ownsRow_nil _ _ _ _, by simp, (Below.refl _ _).alloc (Nat.le_refl _) _⟩
 case round =>
  obtain ⟨k, v, hk, rfl, hv, hf, hown, hsz, hbel⟩ := hrel
  by_cases hlt : k < n
  ·obtain ⟨b, off, rfl, hbB, hcc⟩ := (hx.keep (hbel.mono hB)).2 (by omega)
   have hxl := hx.1
   have c := hcc k (by omega)
   have ht : (newGates (xs.take (k + 1))).flatMap Gate.cells = (newGates (xs.take k)).flatMap Gate.cells ++ [.int .i64 xs[k], .int .i64 0, .int .i64 0] := by
    rw [List.take_succ_eq_append_getElem (by omega)]
    simp only [newGates, List.map_append, List.flatMap_append]
    rfl
   have Ht := Lib.hid ht; clear ht
   generalize xs[k] = x at *
   have Hx := Lib.hid hx
   clear hx hcc
   have hz3 : wr.heap.size < (wr.alloc (.cells #[.int .i64 x, .int .i64 0, .int .i64 0] 146)).heap.size := by simp
   go_wp2_with (at_builtin; refine wpList_append_own _ rfl _ _ 142 rfl (w.heap.size + 1) 146 i0 (.agg #[.int .i64 0, .int .i64 0, .int .i64 0]) 3 24 Tryz.underlying142 hi hz0 hz1 hz2 rfl (by decide) _ _ _ rfl (hown.alloc _) ⟨wr.heap.size, 0, none⟩ 1 1 [.int .i64 x, .int .i64 0, .int .i64 0] rfl rfl ?c1 ?c2 ?c3 ?c4 ?c5 ?_)
   case c1 =>
    exact fun j u hu => cell_new _ _ _ j u hu
   case c2 => intro u hu; simp at hu; rcases hu with rfl | rfl <;> rfl
   case c3 => unfold maxLen; omega
   case c4 => omega
   case c5 => simp; omega
   intro v' w1 hown1 hgrow _
   obtain ⟨g1, cap1, rfl, _⟩ := ownsRow_cells hown1 (by omega)
   have hbel1 : Below (w.heap.size + 1) wr w1 := (((Below.refl _ _).alloc hsz _).grown hgrow (by simp; omega) (fun j e => ownsRow_block hown j e))
   have hv1 : w1.cell? ⟨w.heap.size, 0, none⟩ = some v := by rw [hbel1.cell (by simp)]; exact hv
   have hf1 : w1.frozen? ⟨w.heap.size, 0, none⟩ = false := by rw [hbel1.frozen (by simp)]; exact hf
   clear hv hf hown hgrow hz3
   rw [← Ht.out] at hown1
   go_wp2_with fail
   go_roundw
   case rel => exact ⟨k + 1, _, by omega, by go_num, World.cell?_setCell_same _ _ _ hv1, by rw [World.frozen?_setCell]; exact hf1, ownsRow_setCell_below hown1 (by simp) _, by have := hbel1.size; simp [World.setCell]; omega, (hbel.trans (hbel1.mono (by omega))).setCell (by simp) _⟩
   case measure => simp [intOf]; omega
  ·go_wp2_with fail
   obtain rfl : k = n := by omega
   have hxl := hx.1
   rw [List.take_of_length_le (by omega)] at hown
   have hN : (newGates xs).length = k := by simp [newGates, hxl]
   have hr : ∀ g ∈ newGates xs, 1 ≤ g.apart ∧ g.apart ≤ 1048576 ∧ 0 ≤ g.opn ∧ g.opn ≤ 1099512676352 ∧ 0 ≤ g.count ∧ g.count ≤ (0 : Nat) := by
    intro g hg
    simp only [newGates, List.mem_map] at hg
    obtain ⟨x, hx, rfl⟩ := hg
    have := List.any_eq_false.1 Hany.out x hx
    simp [wrongN] at this
    simp; omega
   obtain ⟨q, cap, hG, hq⟩ := GuardAt.made hv hf (by omega) (by omega) (hN.symm ▸ hown) (by omega) (by omega) hr
   go_ret2
   exact ⟨⟨_, q, cap, rfl, hG, by omega, by omega⟩, hbel⟩
theorem go_is {p q cap N : Nat} {gs gs' : List Gate} {i t r : Int} {w : World} (hE : goStep gs i t = (r, gs')) (hg : GuardAt w p q cap N gs) (hN : N ≤ 1000000) :
  Calls Tryz.prog 63 #[.pointer (some ⟨p, 0, none⟩), .int .i64 i, .int .i64 t] w fun e w' =>
   e = .returned (.int .i64 r) ∧ GuardAt w' p q cap (N + 1) gs' ∧ Fr (· = q) w w' := by
 have := go_any p q cap N gs i t w hg hN
 rw [hE] at this
 exact this
theorem count_is {p q cap N : Nat} {gs : List Gate} {i r : Int} {w : World} (hg : GuardAt w p q cap N gs) (hE : countF gs i = r) :
  Calls Tryz.prog 62 #[.pointer (some ⟨p, 0, none⟩), .int .i64 i] w fun e w' => e = .returned (.int .i64 r) ∧ w = w' := by
 have := count_any p q cap N gs i w hg
 rw [hE] at this
 exact this
end
end Go.Proofs.YtnoahekcemfmcaaGreatDoor
