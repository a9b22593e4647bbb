/- WALKS: the wheel: what compares, what looks, what says whether a number is there. -/
import Derived.Test.YthmbbbdnfgefbaaRows
import Derived.Test.YthmbbbdnfgefbaaCore
import Derived.Deep.DeepCutAuto
import Derived.Deep.QuietTactic
import Derived.BigQuiet
import Derived.RegionTactic
import Derived.Deep.RegionHeld
namespace Go.Proofs.Ythmbbbdnfgefbaa
open Go.RowKit
set_option linter.unusedVariables false

theorem ret_bool {a b : Bool} (h : a = b) : Ending.returned (.bool a) = .returned (.bool b) := by rw [h]
theorem ret_int {k : IntKind} {a b : Int} (h : a = b) : Ending.returned (.int k a) = .returned (.int k b) := by rw [h]

set_option maxHeartbeats 400000 in
theorem hasPred_any (a i id : Int) (Bc : Nat) (w : World) (hc : w.cell? ⟨Bc, 0, none⟩ = some (.int .i64 id)) :
    Calls Try.prog 37 #[.agg #[.int .i64 a, .int .i64 i], .pointer (some ⟨Bc, 0, none⟩)] w fun e w' => e = .returned (.bool (i == id)) ∧ Below w.heap.size w w' := by
  have hc' : (w.alloc (.cells #[.int .i64 a, .int .i64 i] 30)).cell? ⟨Bc, 0, none⟩ = some (.int .i64 id) := by rw [World.cell?_alloc_lt w _ _ (block_lt hc)]; exact hc
  go_enter Try.func37, Try.ntmps37
  go_wp2_with fail
  go_ret
  exact ⟨rfl, (Below.refl _ _).alloc (Nat.le_refl _) _⟩

theorem any_take_succ {α : Type} (p : α → Bool) (l : List α) (k : Nat) (h : k < l.length) : (l.take (k + 1)).any p = ((l.take k).any p || p l[k]) := by
  rw [List.take_succ_eq_append_getElem h, List.any_append]; simp

set_option maxHeartbeats 1000000 in
theorem indexFunc_any (B : Nat) (a : Option Addr) (n c : Nat) (l : List (Int × Int)) (id : Int) (Bc : Nat) (w : World) (hx : PairsIn B w a n l) (hB : B ≤ w.heap.size) (hn : n ≤ 9223372036854775807)
    (hc : w.cell? ⟨Bc, 0, none⟩ = some (.int .i64 id)) (hBc : Bc < w.heap.size) :
    Calls Try.prog 43 #[.slice a n c, .func (.func 37) #[] #[.pointer (some ⟨Bc, 0, none⟩)]] w fun e w' =>
      (∃ r : Int, e = .returned (.int .i64 r) ∧ (decide (0 ≤ r) = l.any fun d => d.2 == id)) ∧ Below w.heap.size w w' := by
  have hlen := hx.1
  go_enter Try.func43, Try.ntmps43
  go_wp2_with fail
  go_loopw [8] (fun i wr => ∃ k : Nat, k ≤ n ∧ i = .int .i64 k ∧ Hid ((l.take k).any (fun d => d.2 == id) = false) ∧ Below w.heap.size w wr) (fun i _ => n - (intOf i).toNat)
  case atStart => exact ⟨0, Nat.zero_le _, rfl, (by show _ = _; simp), Below.refl _ _⟩
  case round =>
    obtain ⟨k, hk, rfl, Hall, hb⟩ := hrel
    by_cases hlt : k < n
    · obtain ⟨b, off, rfl, hbB, hcc⟩ := (hx.keep (hb.mono hB)).2 (by omega)
      have hcell := hcc k (by omega)
      have ht := any_take_succ (fun d : Int × Int => d.2 == id) l k (by omega)
      rw [Hall.out, Bool.false_or] at ht
      have hm : l[k] ∈ l := List.getElem_mem _
      have HM : Hid ((l[k].2 == id) = true → (l.any fun d => d.2 == id) = true) := fun h => List.any_eq_true.2 ⟨l[k], hm, h⟩
      generalize l[k].1 = da at *
      generalize l[k].2 = di at *
      have Ht := Lib.hid ht; clear ht
      obtain ⟨c1, c2⟩ := hcell
      have hcw : wr.cell? ⟨Bc, 0, none⟩ = some (.int .i64 id) := by rw [hb.cell (p := ⟨Bc, 0, none⟩) hBc]; exact hc
      have Hx := Lib.hid hx
      clear hx hcc hm
      have hsz := hb.size
      cases hw : di == id
      · have P := hasPred_any da di id Bc wr hcw
        rw [hw] at P Ht
        have Hw := Lib.hid hw; clear hw
        have HP := Lib.hid P; clear P HM
        go_wp2_with fail
        refine HP.out.mono ?_
        rintro e w2 ⟨rfl, hb2⟩
        go_wp2_with fail
        go_roundw
        case rel => exact ⟨k + 1, by omega, by go_num, Ht, hb.trans (hb2.mono hsz)⟩
        case measure => simp [intOf]; omega
      · have P := hasPred_any da di id Bc wr hcw
        rw [hw] at P
        have HA := Lib.hid (HM.out hw)
        clear hw HM
        have HP := Lib.hid P; clear P
        go_wp2_with fail
        refine HP.out.mono ?_
        rintro e w2 ⟨rfl, hb2⟩
        go_wp2_with fail
        go_ret
        exact ⟨⟨_, rfl, by rw [HA.out, decide_eq_true_eq]; omega⟩, hb.trans (hb2.mono hsz)⟩
    · go_wp2_with fail
      go_ret
      exact ⟨⟨_, rfl, by have := Hall.out; rw [List.take_of_length_le (by omega)] at this; rw [this]; rfl⟩, hb⟩

set_option maxHeartbeats 400000 in
theorem containsFunc_any (B : Nat) (a : Option Addr) (n c : Nat) (l : List (Int × Int)) (id : Int) (Bc : Nat) (w : World) (hx : PairsIn B w a n l) (hB : B ≤ w.heap.size) (hn : n ≤ 9223372036854775807)
    (hc : w.cell? ⟨Bc, 0, none⟩ = some (.int .i64 id)) (hBc : Bc < w.heap.size) :
    Calls Try.prog 36 #[.slice a n c, .func (.func 37) #[] #[.pointer (some ⟨Bc, 0, none⟩)]] w fun e w' => e = .returned (.bool (l.any fun d => d.2 == id)) ∧ Below w.heap.size w w' := by
  have H := Lib.hid (indexFunc_any B a n c l id Bc w hx hB hn hc hBc)
  generalize (l.any fun d => d.2 == id) = r at *
  go_enter Try.func36, Try.ntmps36
  go_wp2_with fail
  refine H.out.mono ?_
  rintro e w' ⟨⟨q, rfl, hr⟩, hb⟩
  have Hr := Lib.hid hr; clear hr
  go_wp2_with fail
  go_ret
  exact ⟨ret_bool Hr.out, hb⟩

/-- Is a number there? -/
def Whl.has (S : Whl) (id : Int) : Bool := (List.range 64).any fun i => (S.b i).any fun d => d.2 == id

theorem any_range_succ (f : Nat → Bool) (k : Nat) : (List.range (k + 1)).any f = ((List.range k).any f || f k) := by
  rw [List.range_succ, List.any_append]; simp

set_option maxHeartbeats 1000000 in
theorem has_any (B : Nat) (p : Nat) (F : Nat → Prop) (S : Whl) (id : Int) (w : World) (h : WheelAt B w p F S) (hB : B ≤ w.heap.size) (hl : ∀ i, i < 64 → (S.b i).length ≤ 1024) :
    Calls Try.prog 29 #[.pointer (some ⟨p, 0, none⟩), .int .i64 id] w fun e w' => e = .returned (.bool (S.has id)) ∧ Below w.heap.size w w' := by
  have hb1 : Below w.heap.size w (w.alloc (.cells #[.int .i64 id] 3)) := (Below.refl _ _).alloc (Nat.le_refl _) _
  have hid := cell_new w #[.int .i64 id] 3 0 _ rfl
  have hid' : (w.alloc (.cells #[.int .i64 id] 3)).cell? ⟨w.heap.size, 0, none⟩ = some (.int .i64 id) := by rw [add_none] at hid; exact hid
  clear hid
  have hsz : w.heap.size < (w.alloc (.cells #[.int .i64 id] 3)).heap.size := by simp
  go_enter Try.func29, Try.ntmps29
  go_wp2_with fail
  generalize w.alloc (.cells #[.int .i64 id] 3) = w1 at *
  go_loopw [6] (fun i wr => ∃ k : Nat, k ≤ 64 ∧ i = .int .i64 k ∧ Hid ((List.range k).any (fun i => (S.b i).any fun d => d.2 == id) = false) ∧ Below w1.heap.size w1 wr) (fun i _ => 64 - (intOf i).toNat)
  case atStart => exact ⟨0, Nat.zero_le _, rfl, rfl, Below.refl _ _⟩
  case round =>
    obtain ⟨k, hk, rfl, Hall, hb⟩ := hrel
    have hbw : Below w.heap.size w wr := hb1.trans (hb.mono (by omega))
    have hW := h.below hbw
    have hsz2 := hb.size
    have hcid : wr.cell? ⟨w.heap.size, 0, none⟩ = some (.int .i64 id) := by rw [hb.cell (p := ⟨w.heap.size, 0, none⟩) hsz]; exact hid'
    by_cases hlt : k < 64
    · obtain ⟨vs, h1, _⟩ := hW.row
      obtain ⟨hv, hown, _⟩ := h1 k hlt
      obtain ⟨a, cap, hform⟩ := ownsRow_form hown
      rw [hform] at hv hown
      have hD := dues_of_own hown rfl
      have CF := Lib.hid (containsFunc_any wr.heap.size a _ cap (S.b k) id w.heap.size wr hD (Nat.le_refl _) (by have := hl k hlt; omega) hcid (by omega))
      have ht := any_range_succ (fun i => (S.b i).any fun d => d.2 == id) k
      rw [Hall.out, Bool.false_or] at ht
      have HT : Hid (((S.b k).any fun d => d.2 == id) = true → S.has id = true) := by
        intro h'
        unfold Whl.has
        exact List.any_eq_true.2 ⟨k, by simpa using hlt, h'⟩
      have Ht := Lib.hid ht; clear ht hown hD h1 hform hW hid'
      generalize (S.b k).any (fun d => d.2 == id) = r at *
      generalize (S.b k).length = n at *
      have hkI : (k : Int) < 64 := by omega
      cases r
      · clear HT
        go_wp2_with fail
        refine CF.out.mono ?_
        rintro e w2 ⟨rfl, hb2⟩
        go_wp2_with fail
        go_roundw
        case rel => exact ⟨k + 1, by omega, by go_num, Ht, hb.trans (hb2.mono hsz2)⟩
        case measure => simp [intOf]; omega
      · have HT' := Lib.hid (HT.out rfl); clear HT
        go_wp2_with fail
        refine CF.out.mono ?_
        rintro e w2 ⟨rfl, hb2⟩
        go_wp2_with fail
        go_ret
        exact ⟨ret_bool HT'.out.symm, hbw.trans (hb2.mono (by omega))⟩
    · obtain rfl : k = 64 := by omega
      go_wp2_with fail
      go_ret
      exact ⟨ret_bool Hall.out.symm, hbw⟩
end Go.Proofs.Ythmbbbdnfgefbaa
