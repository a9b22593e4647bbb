/- A part of the walk: Fa Fb Ba Bb Bc. -/
import Derived.Test.YtnoahekcemfmcaaGreatDoorQ28
import Derived.Test.YtnoahekcemfmcaaGreatDoorQ08
import Derived.Test.YtnoahekcemfmcaaGreatDoorQ33
namespace Go.Proofs.YtnoahekcemfmcaaGreatDoor
set_option linter.unusedVariables false
set_option linter.unusedSimpArgs false
section
open Go.RowKit
def AnyB (e : Ending) : Prop := ∃ b, e = .returned (.bool b)
set_option maxHeartbeats 1000000 in
set_option maxRecDepth 100000 in
theorem rfew_any (B : Nat) (bu : Int) (a : Option Addr) (n c : Nat) (tk : Nat → Tk) (w : World) (hx : TksIn B w a n tk) (hB : B ≤ w.heap.size) (hn : n ≤ 9223372036854775807) :
  Calls Tryz.prog 13 #[.agg #[.int .i64 bu, .slice a n c]] w fun e w' => AnyB e ∧ Below w.heap.size w w' := by
 have hb0 := bel_alloc (Below.refl w.heap.size w) (.cells #[.int .i64 bu, .slice a n c] 24)
 have hx1 := Lib.hid (hx.keep (hb0.mono hB))
 have hbox1 := cell_newb w #[.int .i64 bu, .slice a n c] 24 _ 1 _ rfl rfl
 have hsz := one_lt w (.cells #[.int .i64 bu, .slice a n c] 24)
 clear hx
 go_enter Tryz.func13, Tryz.ntmps13
 go_wp2_with fail
 generalize w.alloc (.cells #[.int .i64 bu, .slice a n c] 24) = w1 at hb0 hbox1 hsz hx1 ⊢
 have HB0 := Lib.hid hb0
 clear hb0
 go_loopw [3] (fun ix wx => ∃ k : Nat, k ≤ n ∧ k ≤ 40 ∧ ix = .int .i64 k ∧ wx = w1) (fun ix _ => n - (intOf ix).toNat)
 case atStart => exact ⟨0, Nat.zero_le _, by omega, rfl, rfl⟩
 case round =>
  obtain ⟨k, hk, hk40, rfl, rfl⟩ := hrel
  by_cases hlt : k < n
  ·have hkI : (k : Int) < (n : Int) := by omega
   have hk0 : (0 : Int) ≤ (k : Int) := by omega
   have hdl : decide ((k : Int) < (n : Int)) = true := decide_eq_true hkI
   by_cases h40 : k < 40
   ·have hd4 : decide ((k : Int) < 40) = true := decide_eq_true (by omega)
    obtain ⟨b, off, rfl, hbB, hcc⟩ := hx1.out (by omega)
    have hq := hcc k (by omega) 0 _ rfl
    simp only [Nat.add_zero] at hq
    have Hx := Lib.hid hx1
    clear hx1 hcc
    go_wp2_with fail
    all_goals first
     |(go_ret; exact ⟨⟨_, rfl⟩, HB0.out⟩)
     |(go_roundw
       case rel => exact ⟨k + 1, by omega, by omega, by simp, by simp⟩
       case measure => simp [intOf]; omega)
   ·have hd4 : decide ((k : Int) < 40) = false := decide_eq_false (by omega)
    go_wp2_with fail
    all_goals (go_ret; exact ⟨⟨_, rfl⟩, HB0.out⟩)
  ·have hkn : k = n := by omega
   subst hkn
   have hdl : decide ((k : Int) < (k : Int)) = false := decide_eq_false (by omega)
   go_wp2_with fail
   all_goals (go_ret; exact ⟨⟨_, rfl⟩, HB0.out⟩)
end
section
open Go.RowKit
def InsIn (B : Nat) (w : World) (a : Option Addr) (l : List (List (Int × Int) × Bool)) : Prop :=
 0 < l.length → ∃ b off, a = some ⟨b, off, none⟩ ∧ b < B ∧ ∀ j (h : j < l.length), ∃ aj cj, w.cell? ⟨b, off + j * 2, none⟩ = some (.slice aj l[j].1.length cj) ∧ w.cell? ⟨b, off + j * 2 + 1, none⟩ = some (.bool l[j].2) ∧ RelsIn B w aj l[j].1
theorem InsIn.keep {T : Nat → Prop} {B : Nat} {w w' : World} {a : Option Addr} {l : List (List (Int × Int) × Bool)} (h : InsIn B w a l) (hB : B ≤ w.heap.size) (hf : Fr T w w') (hT : ∀ b, b < B → ¬ T b) : InsIn B w' a l := fun h0 => by
 obtain ⟨b, off, e, hlt, hc⟩ := h h0
 refine ⟨b, off, e, hlt, fun j hj => ?_⟩
 obtain ⟨aj, cj, c1, c2, c3⟩ := hc j hj
 exact ⟨aj, cj, (hf.cell (p := ⟨b, off + j * 2, none⟩) (by show b < _; omega) (hT b hlt)).trans c1, (hf.cell (p := ⟨b, off + j * 2 + 1, none⟩) (by show b < _; omega) (hT b hlt)).trans c2, c3.keep hB hf hT⟩
def relsN (l : List (List (Int × Int) × Bool)) : Nat := (l.map (·.1.length)).sum
theorem relsN_take (l : List (List (Int × Int) × Bool)) (k : Nat) (h : k < l.length) : relsN (l.take (k + 1)) = relsN (l.take k) + l[k].1.length := by
 unfold relsN
 rw [take_more l k h, List.map_append, List.sum_append]
 simp
theorem relsN_bd (l : List (List (Int × Int) × Bool)) (h : ∀ x ∈ l, x.1.length ≤ 140737488355328) : relsN l ≤ l.length * 140737488355328 := by
 induction l with
 | nil => simp [relsN]
 | cons a l ih =>
  have h1 := h a List.mem_cons_self
  have h2 := ih fun x hx => h x (List.mem_cons_of_mem _ hx)
  unfold relsN at *
  simp only [List.map_cons, List.sum_cons, List.length_cons]
  omega
set_option maxHeartbeats 1000000 in
set_option maxRecDepth 100000 in
theorem ifew_any (B : Nat) (a : Option Addr) (c : Nat) (l : List (List (Int × Int) × Bool)) (w : World) (hx : InsIn B w a l) (hB : B ≤ w.heap.size) (hn : l.length ≤ 9223372036854775807) (hl : ∀ x ∈ l, x.1.length ≤ 140737488355328) :
  Calls Tryz.prog 15 #[.slice a l.length c] w fun e w' => RetB e (l.length ≤ 400 ∧ relsN l ≤ 1000) ∧ w' = w := by
 have hbd : ∀ k, k ≤ 500 → relsN (l.take k) ≤ 70368744177664000 := fun k hk => by
  have h1 := relsN_bd (l.take k) fun x hx => hl x (List.mem_of_mem_take hx)
  rw [List.length_take] at h1
  omega
 have HBD := Lib.hid hbd
 have HL := Lib.hid hl
 have hx1 := Lib.hid hx
 clear hx hbd hl
 obtain ⟨n, hnl⟩ : ∃ n, l.length = n := ⟨_, rfl⟩
 rw [hnl] at hn ⊢
 have hnI : (n : Int) ≤ 9223372036854775807 := by omega
 go_enter Tryz.func15, Tryz.ntmps15
 go_wp2_with fail
 go_loopw [3, 4] (fun s3 ix wx => ∃ k : Nat, k ≤ n ∧ k ≤ 500 ∧ s3 = .int .i64 (relsN (l.take k) : Nat) ∧ ix = .int .i64 k ∧ wx = w) (fun _ ix _ => n - (intOf ix).toNat)
 case atStart => exact ⟨0, Nat.zero_le _, by omega, rfl, rfl, rfl⟩
 case round =>
  obtain ⟨k, hk, hk5, rfl, rfl, rfl⟩ := hrel
  have hb := HBD.out k hk5
  have hbI : ((relsN (l.take k) : Nat) : Int) ≤ 70368744177664000 := by omega
  have hb0 : (0 : Int) ≤ ((relsN (l.take k) : Nat) : Int) := by omega
  by_cases hlt : k < n
  ·have hkI : (k : Int) < (n : Int) := by omega
   have hk0 : (0 : Int) ≤ (k : Int) := by omega
   have hdl : decide ((k : Int) < (n : Int)) = true := decide_eq_true hkI
   by_cases h5 : k < 500
   ·have hd5 : decide ((k : Int) < 500) = true := decide_eq_true (by omega)
    have hkl : k < l.length := by omega
    obtain ⟨b, off, rfl, hbB, hcc⟩ := hx1.out (by omega)
    obtain ⟨aj, cj, c1, _, _⟩ := hcc k hkl
    have ht := relsN_take l k hkl
    have hb' := HBD.out (k + 1) (by omega)
    obtain ⟨m, hm⟩ : ∃ m, l[k].1.length = m := ⟨_, rfl⟩
    rw [hm] at c1 ht
    have HT : Hid (((relsN (l.take k) : Nat) : Int) + (m : Int) = ((relsN (l.take (k + 1)) : Nat) : Int)) := by show _ = _; omega
    obtain ⟨q, hq⟩ : ∃ q, relsN (l.take k) = q := ⟨_, rfl⟩
    rw [hq] at HT hb hbI hb0 ⊢
    have hmI : (q : Int) + (m : Int) ≤ 70368744177664000 := by have := HT.out; omega
    have hm0 : (0 : Int) ≤ (m : Int) := by omega
    clear hcc ht hb' hm hq hb
    go_wp2_with fail
    go_roundw
    case rel => exact ⟨k + 1, by omega, by omega, by rw [HT.out], by simp, by simp⟩
    case measure => simp [intOf]; omega
   ·have hd5 : decide ((k : Int) < 500) = false := decide_eq_false (by omega)
    have hd4 : decide ((n : Int) ≤ 400) = false := decide_eq_false (by omega)
    go_wp2_with fail
    go_ret
    exact ⟨⟨false, rfl, by simp⟩, rfl⟩
  ·have hkn : k = n := by omega
   subst hkn
   have hdl : decide ((k : Int) < (k : Int)) = false := decide_eq_false (by omega)
   have e : l.take k = l := by rw [List.take_of_length_le (by omega)]
   rw [e] at hb hbI hb0 ⊢
   by_cases h4 : k ≤ 400
   ·have hd4 : decide ((k : Int) ≤ 400) = true := decide_eq_true (by omega)
    go_wp2_with fail
    go_ret
    refine ⟨⟨_, rfl, fun h => ⟨h4, ?_⟩⟩, rfl⟩
    simp at h
    omega
   ·have hd4 : decide ((k : Int) ≤ 400) = false := decide_eq_false (by omega)
    go_wp2_with fail
    go_ret
    exact ⟨⟨false, rfl, by simp⟩, rfl⟩
end
section
open Go.RowKit
def hitOf (l : List (List (Int × Int) × Bool)) (t : Nat) : Bool := match l[t]? with | some x => x.2 | none => false
theorem faultsL_len (σ : Nat → Bool) (k : Nat) : (faultsL σ k).length ≤ k := by
 induction k with
 | zero => exact Nat.le_refl _
 | succ k ih =>
  unfold faultsL
  split
  ·rw [List.length_append]; simp; omega
  ·omega
set_option maxHeartbeats 2000000 in
set_option maxRecDepth 100000 in
theorem faults_any (B : Nat) (a : Option Addr) (c : Nat) (l : List (List (Int × Int) × Bool)) (w : World) (hx : InsIn B w a l) (hB : B ≤ w.heap.size) (hn : l.length ≤ 100000) :
  Calls Tryz.prog 45 #[.slice a l.length c] w fun e w' => ∃ v, e = .returned v ∧ w'.ownsRow w.heap.size 3 1 v (faultsL (hitOf l) l.length).length (intsV (faultsL (hitOf l) l.length)) ∧ Below w.heap.size w w' := by
 have HX := Lib.hid hx
 have hnI : (l.length : Int) ≤ 100000 := by omega
 obtain ⟨i3, ki3, kz31, kz32, kz33⟩ := info_parts Tryz.info3
 clear hx
 go_enter Tryz.func45, Tryz.ntmps45
 go_wp2_with fail
 go_loopw [8, 3, 4, 5] (fun ix s3 s4 s5 wx => ∃ k : Nat, k ≤ l.length ∧ ix = .int .i64 k ∧ Hid (wx.ownsRow w.heap.size 3 1 s3 (faultsL (hitOf l) k).length (intsV (faultsL (hitOf l) k))) ∧ Hid (Below w.heap.size w wx)) (fun ix _ _ _ _ => l.length - (intOf ix).toNat)
 case atStart => exact ⟨0, Nat.zero_le _, rfl, World.ownsRow_nil _ _ _ _, Below.refl _ _⟩
 case round =>
  obtain ⟨k, hk, rfl, HO, HB⟩ := hrel
  obtain ⟨a3, c3, h3⟩ := ownsRow_form HO.out
  subst h3
  by_cases hlt : k < l.length
  ·have hkI : (k : Int) < (l.length : Int) := by omega
   have hk0 : (0 : Int) ≤ (k : Int) := by omega
   have hdl : decide ((k : Int) < (l.length : Int)) = true := decide_eq_true hkI
   obtain ⟨b, off, rfl, hbB, hcs⟩ := (HX.out.keep hB (Fr.of_below (S := fun _ => False) HB.out) (fun _ _ t => t)) (by omega)
   obtain ⟨aj, cj, c0, c1, c2⟩ := hcs k hlt
   obtain ⟨x1, hx1⟩ : ∃ x1, l[k].1.length = x1 := ⟨_, rfl⟩
   obtain ⟨x2, hx2⟩ : ∃ x2, l[k].2 = x2 := ⟨_, rfl⟩
   rw [hx1] at c0
   rw [hx2] at c1
   have hhit : hitOf l k = x2 := by unfold hitOf; rw [List.getElem?_eq_getElem hlt]; exact hx2
   have hfl := faultsL_len (hitOf l) k
   have hbb := bel_alloc (Below.refl wr.heap.size wr) (.cells #[.slice aj x1 cj, .bool x2] 55)
   have HBB := Lib.hid (HB.out.trans (hbb.mono HB.out.size))
   have HO2 := Lib.hid (own_fr2 HO.out (Fr.of_below (S := fun _ => False) hbb) (fun _ _ t => t))
   have HF1 : Hid (x2 = true → faultsL (hitOf l) (k + 1) = faultsL (hitOf l) k ++ [(k : Int)]) := fun e => by show (if hitOf l k = true then _ else _) = _; rw [if_pos (by rw [hhit]; exact e)]
   have HF2 : Hid (x2 = false → faultsL (hitOf l) (k + 1) = faultsL (hitOf l) k) := fun e => by show (if hitOf l k = true then _ else _) = _; rw [if_neg (by rw [hhit, e]; simp)]
   have hws := HB.out.size
   clear hcs c2 hx1 hx2 hhit hbb HO
   cases x2
   ·have HE := Lib.hid (HF2.out rfl)
    clear HF1 HF2
    go_wp2_with fail
    go_roundw
    case rel => exact ⟨k + 1, by omega, by simp, by rw [HE.out]; exact HO2, HBB⟩
    case measure => simp [intOf]; omega
   ·have HE := Lib.hid (HF1.out rfl)
    clear HF1 HF2
    go_wp2_with (at_builtin; refine wpList_append_row rfl _ _ 28 rfl w.heap.size 3 i3 _ 1 8 Tryz.underlying28 ki3 kz31 kz32 kz33 rfl (by omega) _ (faultsL (hitOf l) k).length (intsV (faultsL (hitOf l) k)) rfl (own_fr2 HO2.out (Fr.of_below (S := fun _ => False) (bel_alloc (Below.refl _ _) _)) (fun _ _ t => t)) (.slice (some ⟨wr.heap.size + 1, 0, none⟩) 1 1) 1 [.int .i64 k] rfl rfl (.inr ⟨⟨wr.heap.size + 1, 0, none⟩, 1, rfl, fun j u hu => by obtain ⟨rfl, rfl⟩ := one_of hu; rw [add_none]; exact cell_newb _ _ _ _ 0 _ (by simp) rfl⟩) (by simp [Value.oneCell']) (by unfold maxLen; omega) (by omega) (by simp; omega) ?_; intro v7 w7 own7 gr7 at7)
    have HN : Hid (w7.ownsRow w.heap.size 3 1 v7 (faultsL (hitOf l) (k + 1)).length (intsV (faultsL (hitOf l) (k + 1)))) := by
     rw [HE.out]
     have e1 : intsV (faultsL (hitOf l) k ++ [(k : Int)]) = intsV (faultsL (hitOf l) k) ++ [.int .i64 k] := by simp [intsV]
     have e2 : (faultsL (hitOf l) k ++ [(k : Int)]).length = (faultsL (hitOf l) k).length + 1 := by simp
     rw [e1, e2]
     exact own7
    have HB7 : Hid (Below w.heap.size w w7) := by
     have h1 : Below w.heap.size w ((wr.alloc (.cells #[.slice aj x1 cj, .bool true] 55)).alloc (.cells #[.int .i64 k] 3)) := HBB.out.trans ((bel_alloc (Below.refl _ _) _).mono HBB.out.size)
     exact Below.grown h1 gr7 (by simp; omega) (fun q e => ownsRow_block HO2.out q e)
    clear own7 gr7 at7
    go_roundw
    case rel => exact ⟨k + 1, by omega, by simp, HN, HB7⟩
    case measure => simp [intOf]; omega
  ·have hkn : k = l.length := by omega
   subst hkn
   have hdl : decide ((l.length : Int) < (l.length : Int)) = false := decide_eq_false (by omega)
   go_wp2_with fail
   go_ret
   exact ⟨_, rfl, HO.out, HB.out⟩
end
section
open Go.RowKit
theorem starts_take (b : Int) (xs : List Int) (k : Nat) (h : k < xs.length) : startsL b (xs.take (k + 1)) = startStep b (startsL b (xs.take k)) xs[k] := by
 unfold startsL
 rw [take_more xs k h, List.foldl_append]
 rfl
theorem startStep_len (b : Int) (o : List Int) (x : Int) : (startStep b o x).length ≤ o.length + 1 := by
 unfold startStep
 split
 ·simp
 ·split
  ·simp
  ·omega
theorem starts_len (b : Int) (xs : List Int) (k : Nat) : (startsL b (xs.take k)).length ≤ k := by
 induction k with
 | zero => simp [startsL]
 | succ k ih =>
  by_cases h : k < xs.length
  ·rw [starts_take b xs k h]
   have := startStep_len b (startsL b (xs.take k)) xs[k]
   omega
  ·rw [List.take_of_length_le (by omega)]
   rw [List.take_of_length_le (by omega)] at ih
   omega
theorem startStep_mem (b : Int) (o : List Int) (x y : Int) (h : y ∈ startStep b o x) : y ∈ o ∨ y = x := by
 unfold startStep at h
 split at h
 ·simpa using h
 ·split at h
  ·simpa using h
  ·exact .inl h
theorem starts_mem (b : Int) (xs : List Int) (k : Nat) : ∀ y ∈ startsL b (xs.take k), y ∈ xs := by
 induction k with
 | zero => intro y hy; simp [startsL] at hy
 | succ k ih =>
  intro y hy
  by_cases h : k < xs.length
  ·rw [starts_take b xs k h] at hy
   rcases startStep_mem _ _ _ _ hy with h1 | h1
   ·exact ih y h1
   ·rw [h1]; exact List.getElem_mem _
  ·rw [List.take_of_length_le (by omega)] at hy
   rw [List.take_of_length_le (by omega)] at ih
   exact ih y hy
set_option maxHeartbeats 2000000 in
set_option maxRecDepth 100000 in
theorem starts_any (B : Nat) (a : Option Addr) (n c : Nat) (xs : List Int) (b : Int) (w : World) (hx : IntsIn B w a n xs) (hB : B ≤ w.heap.size) (hn : n ≤ 100000) (hxs : ∀ x ∈ xs, 0 ≤ x ∧ x ≤ 1000000) (hb : 1 ≤ b) (hb2 : b ≤ 1000) :
  Calls Tryz.prog 108 #[.slice a n c, .int .i64 b] w fun e w' => ∃ v, e = .returned v ∧ w'.ownsRow w.heap.size 3 1 v (startsL b xs).length (intsV (startsL b xs)) ∧ Below w.heap.size w w' := by
 obtain ⟨hlen, hx⟩ := hx
 have HX := Lib.hid hx
 have HXS := Lib.hid hxs
 have hnI : (n : Int) ≤ 100000 := by omega
 obtain ⟨i3, ki3, kz31, kz32, kz33⟩ := info_parts Tryz.info3
 clear hx hxs
 go_enter Tryz.func108, Tryz.ntmps108
 go_wp2_with fail
 go_loopw [11, 5, 7, 8] (fun ix s5 s7 s8 wx => ∃ k : Nat, k ≤ n ∧ ix = .int .i64 k ∧ Hid (wx.ownsRow w.heap.size 3 1 s5 (startsL b (xs.take k)).length (intsV (startsL b (xs.take k)))) ∧ Hid (Below w.heap.size w wx)) (fun ix _ _ _ _ => n - (intOf ix).toNat)
 case atStart => exact ⟨0, Nat.zero_le _, rfl, World.ownsRow_nil _ _ _ _, Below.refl _ _⟩
 case round =>
  obtain ⟨k, hk, rfl, HO, HB⟩ := hrel
  by_cases hlt : k < n
  ·have hkI : (k : Int) < (n : Int) := by omega
   have hk0 : (0 : Int) ≤ (k : Int) := by omega
   have hdl : decide ((k : Int) < (n : Int)) = true := decide_eq_true hkI
   obtain ⟨bx, off, rfl, hbB, hc⟩ := HX.out (by omega)
   have hck := cell_bel HB.out (hc k (by omega))
   have hst := starts_take b xs k (by omega)
   have hfl := starts_len b xs k
   have hxk := HXS.out xs[k] (List.getElem_mem _)
   have HMB : Hid (∀ y ∈ startsL b (xs.take k), 0 ≤ y ∧ y ≤ 1000000) := fun y hy => HXS.out y (starts_mem b xs k y hy)
   obtain ⟨x, hxe⟩ : ∃ x, xs[k] = x := ⟨_, rfl⟩
   rw [hxe] at hck hst hxk
   obtain ⟨F, hF⟩ : ∃ F, startsL b (xs.take k) = F := ⟨_, rfl⟩
   have HO2 := Lib.hid HO.out
   rw [hF] at HO2 hst hfl HMB
   obtain ⟨a5, c5, h5⟩ := ownsRow_form HO2.out
   subst h5
   have hws := HB.out.size
   have HST := Lib.hid hst
   clear hc hst hxe hF HO
   by_cases h0 : F.length = 0
   ·have hF0 : F = [] := List.eq_nil_of_length_eq_zero h0
    subst hF0
    have HE : Hid (startsL b (xs.take (k + 1)) = [] ++ [x]) := by show _ = _; rw [HST.out]; rfl
    clear HST h0
    go_wp2_with (at_builtin; refine wpList_append_row rfl _ _ 28 rfl w.heap.size 3 i3 _ 1 8 Tryz.underlying28 ki3 kz31 kz32 kz33 rfl (by omega) _ ([] : List Int).length (intsV ([] : List Int)) rfl (own_fr2 HO2.out (Fr.of_below (S := fun _ => False) (bel_alloc (Below.refl _ _) _)) (fun _ _ t => t)) (.slice (some ⟨wr.heap.size, 0, none⟩) 1 1) 1 [.int .i64 x] rfl rfl (.inr ⟨⟨wr.heap.size, 0, none⟩, 1, rfl, fun j u hu => by obtain ⟨rfl, rfl⟩ := one_of hu; rw [add_none]; exact cell_newb _ _ _ _ 0 _ (by simp) rfl⟩) (by simp [Value.oneCell']) (by unfold maxLen; first | omega | decide) (by first | omega | decide) (by simp; omega) ?_; intro v7 w7 own7 gr7 at7)
    have HN : Hid (w7.ownsRow w.heap.size 3 1 v7 (startsL b (xs.take (k + 1))).length (intsV (startsL b (xs.take (k + 1))))) := by
     rw [HE.out]
     have e1 : intsV (([] : List Int) ++ [x]) = intsV ([] : List Int) ++ [.int .i64 x] := by simp [intsV]
     have e2 : (([] : List Int) ++ [x]).length = ([] : List Int).length + 1 := by simp
     rw [e1, e2]
     exact own7
    have HB7 : Hid (Below w.heap.size w w7) := by
     have h1 : Below w.heap.size w (wr.alloc (.cells #[.int .i64 x] 3)) := HB.out.trans ((bel_alloc (Below.refl _ _) _).mono HB.out.size)
     exact Below.grown h1 gr7 (by simp; omega) (fun q e => ownsRow_block HO2.out q e)
    clear own7 gr7 at7
    go_roundw
    case rel => exact ⟨k + 1, by omega, by simp, HN, HB7⟩
    case measure => simp [intOf]; omega
   ·have hfpos : 0 < F.length := by omega
    obtain ⟨y, hy⟩ : ∃ y, F.getLast? = some y := ⟨_, List.getLast?_eq_some_getLast (by intro e; rw [e] at h0; simp at h0)⟩
    have hy2 : F[F.length - 1]? = some y := by rw [← List.getLast?_eq_getElem?]; exact hy
    have hyb := HMB.out y (List.mem_of_getElem? hy2)
    obtain ⟨g5, cap5, hv5, _, hg5, _, hcell5, _⟩ := ownsRow_cells HO2.out hfpos
    simp only [Value.slice.injEq, true_and] at hv5
    obtain ⟨rfl, rfl⟩ := hv5
    have hcy := hcell5 (F.length - 1) (.int .i64 y) (by unfold intsV; rw [List.getElem?_map, hy2]; rfl)
    have hnz : ((F.length : Int) == 0) = false := beq_eq_false_iff_ne.2 (by omega)
    have hFI : (F.length : Int) ≤ 100000 := by omega
    have hF1 : ((F.length - 1 : Nat) : Int) = (F.length : Int) - 1 := by omega
    have HMA := Lib.hid HST.out
    unfold startStep at HMA
    rw [hy] at HMA
    by_cases hge : b ≤ x - y
    ·have HE : Hid (startsL b (xs.take (k + 1)) = F ++ [x]) := by
      show _ = _
      rw [HMA.out]
      show (if b ≤ x - y then _ else _) = _
      rw [if_pos hge]
     have hgd : decide (x - y ≥ b) = true := decide_eq_true hge
     clear HST HMA hge hy hy2 hcell5 hF1
     go_wp2_with (at_builtin; refine wpList_append_row rfl _ _ 28 rfl w.heap.size 3 i3 _ 1 8 Tryz.underlying28 ki3 kz31 kz32 kz33 rfl (by omega) _ F.length (intsV F) rfl (own_fr2 HO2.out (Fr.of_below (S := fun _ => False) (bel_alloc (Below.refl _ _) _)) (fun _ _ t => t)) (.slice (some ⟨wr.heap.size, 0, none⟩) 1 1) 1 [.int .i64 x] rfl rfl (.inr ⟨⟨wr.heap.size, 0, none⟩, 1, rfl, fun j u hu => by obtain ⟨rfl, rfl⟩ := one_of hu; rw [add_none]; exact cell_newb _ _ _ _ 0 _ (by simp) rfl⟩) (by simp [Value.oneCell']) (by unfold maxLen; first | omega | decide) (by first | omega | decide) (by simp; omega) ?_; intro v7 w7 own7 gr7 at7)
     have HN : Hid (w7.ownsRow w.heap.size 3 1 v7 (startsL b (xs.take (k + 1))).length (intsV (startsL b (xs.take (k + 1))))) := by
      rw [HE.out]
      have e1 : intsV (F ++ [x]) = intsV F ++ [.int .i64 x] := by simp [intsV]
      have e2 : (F ++ [x]).length = F.length + 1 := by simp
      rw [e1, e2]
      exact own7
     have HB7 : Hid (Below w.heap.size w w7) := by
      have h1 : Below w.heap.size w (wr.alloc (.cells #[.int .i64 x] 3)) := HB.out.trans ((bel_alloc (Below.refl _ _) _).mono HB.out.size)
      exact Below.grown h1 gr7 (by simp; omega) (fun q e => ownsRow_block HO2.out q e)
     clear own7 gr7 at7
     go_roundw
     case rel => exact ⟨k + 1, by omega, by simp, HN, HB7⟩
     case measure => simp [intOf]; omega
    ·have HE : Hid (startsL b (xs.take (k + 1)) = F) := by
      show _ = _
      rw [HMA.out]
      show (if b ≤ x - y then _ else _) = _
      rw [if_neg hge]
     have hgd : decide (x - y ≥ b) = false := decide_eq_false hge
     clear HST HMA hge hy hy2 hcell5 hF1
     go_wp2_with fail
     go_roundw
     case rel => exact ⟨k + 1, by omega, by simp, by rw [HE.out]; exact HO2, HB⟩
     case measure => simp [intOf]; omega
  ·have hkn : k = n := by omega
   subst hkn
   have hdl : decide ((k : Int) < (k : Int)) = false := decide_eq_false (by omega)
   have HO2 := HO.out
   rw [List.take_of_length_le (by omega)] at HO2
   have HO3 := Lib.hid HO2
   clear HO2
   go_wp2_with fail
   go_ret
   exact ⟨_, rfl, HO3.out, HB.out⟩
end
section
open Go.RowKit
set_option maxHeartbeats 2000000 in
set_option maxRecDepth 100000 in
theorem gap_any (B : Nat) (a : Option Addr) (n c : Nat) (xs : List Int) (b : Int) (w : World) (hx : IntsIn B w a n xs) (hB : B ≤ w.heap.size) (hn : n ≤ 100000) (hxs : ∀ x ∈ xs, 0 ≤ x ∧ x ≤ 1000000) (hb : 1 ≤ b) (hb2 : b ≤ 1000) :
  Calls Tryz.prog 76 #[.slice a n c, .int .i64 b] w fun e w' => e = .returned (.int .i64 (gapL b xs)) ∧ Below w.heap.size w w' := by
 have HS := Lib.hid (starts_any B a n c xs b w hx hB hn hxs hb hb2)
 have hlen := hx.1
 have hsl := starts_len b xs n
 rw [List.take_of_length_le (by omega)] at hsl
 have HMB : Hid (∀ y ∈ startsL b xs, 0 ≤ y ∧ y ≤ 1000000) := fun y hy => hxs y (by
  have := starts_mem b xs xs.length y
  rw [List.take_length] at this
  exact this hy)
 unfold gapL
 obtain ⟨S, hS⟩ : ∃ S, startsL b xs = S := ⟨_, rfl⟩
 rw [hS] at HS hsl HMB ⊢
 clear hx hxs hS hlen
 have hSI : (S.length : Int) ≤ 100000 := by omega
 go_enter Tryz.func76, Tryz.ntmps76
 go_wp2_with (go_at_call 108; refine HS.out.mono ?_; rintro e w2 ⟨v, rfl, hown, hq2⟩; obtain ⟨av, cv, hv⟩ := ownsRow_form hown; subst hv; have HO := Lib.hid hown; have HQ := Lib.hid hq2; clear HS hown hq2)
 go_loopw [14, 5, 7] (fun ix s5 s7 wx => ∃ k : Nat, (k ≤ S.length - 1) ∧ ix = .int .i64 k ∧ s5 = .int .i64 (gapTo S k) ∧ Hid (gapTo S k ≤ 1049576 ∧ -1000000 ≤ gapTo S k) ∧ Hid (Below w2.heap.size w2 wx)) (fun ix _ _ _ => S.length - (intOf ix).toNat)
 case atStart => exact ⟨0, Nat.zero_le _, rfl, rfl, ⟨by show (1049576 : Int) ≤ _; omega, by show _ ≤ (1049576 : Int); omega⟩, Below.refl _ _⟩
 case round =>
  obtain ⟨k, hk, rfl, rfl, HG, HB⟩ := hrel
  by_cases hlt : k + 1 < S.length
  ·have hkI : (k : Int) < (S.length : Int) - 1 := by omega
   have hk0 : (0 : Int) ≤ (k : Int) := by omega
   have hk1I : (k : Int) + 1 < (S.length : Int) := by omega
   have hk2I : (k : Int) < (S.length : Int) := by omega
   have hdl : decide ((k : Int) < (S.length : Int) - 1) = true := decide_eq_true hkI
   obtain ⟨g5, cap5, hv5, _, hg5, _, hcell5, _⟩ := ownsRow_cells HO.out (by omega)
   simp only [Value.slice.injEq, true_and] at hv5
   obtain ⟨rfl, rfl⟩ := hv5
   have hc0 := cell_bel HB.out (hcell5 k (.int .i64 S[k]) (by unfold intsV; rw [List.getElem?_map, List.getElem?_eq_getElem (by omega)]; rfl))
   have hc1 := cell_bel HB.out (hcell5 (k + 1) (.int .i64 S[k + 1]) (by unfold intsV; rw [List.getElem?_map, List.getElem?_eq_getElem (by omega)]; rfl))
   have hb0 := HMB.out S[k] (List.getElem_mem _)
   have hb1 := HMB.out S[k + 1] (List.getElem_mem _)
   have HST : Hid (gapTo S (k + 1) = min (gapTo S k) (S[k + 1] - S[k])) := by
    show min (gapTo S k) (S.getD (k + 1) 0 - S.getD k 0) = _
    have g1 : S.getD (k + 1) 0 = S[k + 1] := by simp [List.getD_eq_getElem?_getD, hlt]
    have g2 : S.getD k 0 = S[k] := by simp [List.getD_eq_getElem?_getD, show k < S.length by omega]
    rw [g1, g2]
   obtain ⟨x, hxe⟩ : ∃ x, S[k] = x := ⟨_, rfl⟩
   obtain ⟨y, hye⟩ : ∃ y, S[k + 1] = y := ⟨_, rfl⟩
   rw [hxe] at hc0 hb0 HST
   rw [hye] at hc1 hb1 HST
   obtain ⟨G, hG⟩ : ∃ G, gapTo S k = G := ⟨_, rfl⟩
   rw [hG] at HST HG ⊢
   have hgb := HG.out
   have hbl : g5 < wr.heap.size := block_lt hc0
   have HG1 : Hid (gapTo S (k + 1) ≤ 1049576 ∧ -1000000 ≤ gapTo S (k + 1)) := by show _ ∧ _; rw [HST.out]; omega
   clear hxe hye hG hcell5 HG
   go_wp2_with fail
   go_quiet (fail)
   go_wp2_with fail
   go_roundw
   case rel => exact ⟨k + 1, by omega, by simp, by rw [HST.out], HG1, HB.out.trans ((bel_drewN (Below.refl _ _) _).mono HB.out.size)⟩
   case measure => simp [intOf]; omega
  ·have hkn : k = S.length - 1 := by omega
   have hdl : decide ((k : Int) < (S.length : Int) - 1) = false := decide_eq_false (by omega)
   rw [← hkn]
   go_wp2_with fail
   go_ret
   exact ⟨by rw [← hkn]; rfl, HQ.out.trans (HB.out.mono HQ.out.size)⟩
set_option maxHeartbeats 400000 in
theorem blegal_any (B : Nat) (a : Option Addr) (n c : Nat) (xs : List Int) (b g : Int) (w : World) (hx : IntsIn B w a n xs) (hB : B ≤ w.heap.size) (hn : n ≤ 100000) (hxs : ∀ x ∈ xs, 0 ≤ x ∧ x ≤ 1000000) (hb : 1 ≤ b) (hb2 : b ≤ 1000) :
  Calls Tryz.prog 44 #[.slice a n c, .int .i64 b, .int .i64 g] w fun e w' => e = .returned (.bool (decide (g ≤ gapL b xs))) ∧ Below w.heap.size w w' := by
 have HG := Lib.hid (gap_any B a n c xs b w hx hB hn hxs hb hb2)
 obtain ⟨G, hG⟩ : ∃ G, gapL b xs = G := ⟨_, rfl⟩
 rw [hG] at HG ⊢
 clear hx hxs hG
 go_enter Tryz.func44, Tryz.ntmps44
 go_wp2_with (go_at_call 76; refine HG.out.mono ?_; rintro e w2 ⟨rfl, hq2⟩; have HQ := Lib.hid hq2; clear HG hq2)
 go_ret
 exact ⟨by rfl, HQ.out⟩
end
end Go.Proofs.YtnoahekcemfmcaaGreatDoor
