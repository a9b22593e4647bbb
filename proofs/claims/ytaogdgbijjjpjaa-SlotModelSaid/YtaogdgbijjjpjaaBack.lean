/- WALKS: slices.Backward over numbers: an iterator from behind. -/
import Derived.Test.YtaogdgbijjjpjaaIt2
namespace Go.Proofs.Ytaogdgbijjjpjaa
open Go.RowKit Go.Shelf
set_option linter.unusedVariables false
attribute [local go_sem] Oper.semAt_some

/-- A row of numbers. -/
def IsIn (B : Nat) (w : World) (a : Option Addr) (n : Nat) (xs : List Int) : Prop :=
  xs.length = n ∧ (0 < n → ∃ b off, a = some ⟨b, off, none⟩ ∧ b < B ∧ ∀ j (h : j < xs.length), w.cell? ⟨b, off + j, none⟩ = some (.int .i64 xs[j]))
theorem IsIn.keep {w w' : World} {a : Option Addr} {n B : Nat} {xs : List Int} (h : IsIn B w a n xs) (hb : Below B w w') : IsIn B w' a n xs :=
  ⟨h.1, fun hn => by
    obtain ⟨b, off, e, hlt, hc⟩ := h.2 hn
    exact ⟨b, off, e, hlt, fun j hj => (hb.cell (p := ⟨b, off + j, none⟩) hlt).trans (hc j hj)⟩⟩
theorem isIn_of_own {w : World} {base n : Nat} {a : Option Addr} {cap : Nat} {l : List Int} (h : w.ownsRow base 3 1 (.slice a n cap) l.length (l.map (Value.int .i64))) (hn : n = l.length) : IsIn w.heap.size w a n l := by
  refine ⟨hn.symm, fun h0 => ?_⟩
  obtain ⟨g, cap', hv, _, hlt, _, hc, _⟩ := ownsRow_cells h (by omega)
  simp at hv
  obtain ⟨rfl, _⟩ := hv
  refine ⟨g, 0, rfl, hlt, fun j hj => ?_⟩
  rw [Nat.zero_add]
  exact hc j _ (by rw [List.getElem?_map, List.getElem?_eq_getElem hj]; rfl)

/-- From behind: place and number. -/
def back (xs : List Int) : List (Int × Int) := (List.range xs.length).map fun k => (((xs.length - 1 - k : Nat) : Int), xs.getD (xs.length - 1 - k) 0)
theorem back_len (xs : List Int) : (back xs).length = xs.length := by simp [back]
theorem back_at (xs : List Int) (k : Nat) (h : k < xs.length) : (back xs)[k]'(by rw [back_len]; exact h) = (((xs.length - 1 - k : Nat) : Int), xs[xs.length - 1 - k]) := by
  simp only [back, List.getElem_map, List.getElem_range]
  rw [List.getD_eq_getElem?_getD, List.getElem?_eq_getElem (by omega)]
  rfl
theorem back_snd (xs : List Int) : (back xs).map (·.2) = xs.reverse := by
  apply List.ext_getElem
  · simp [back]
  · intro i h1 h2
    rw [List.getElem_map, back_at xs i (by simpa [back] using h1), List.getElem_reverse]

def pv (x : Int × Int) : Array Value := #[.int .i64 x.1, .int .i64 x.2]

set_option maxRecDepth 100000 in
set_option maxHeartbeats 2000000 in
theorem back1_in (F : Fence) (n : Nat) (h74 : F.fn 74) (hro : F.round = none) (hn : 1 ≤ n) (l Bs n₀ c : Nat) (a : Option Addr) (xs : List Int) (hlen : xs.length ≤ 4096) (J Jx : List (Int × Int) → World → Prop)
    (hY : ∀ pre x W, J pre W → pre.length < (back xs).length → YieldAt F (n - 1) Try.prog l (pv x) W fun e W' =>
      (e = .returned (.bool true) ∧ J (pre ++ [x]) W' ∧ Below n₀ W W') ∨ (e = .returned (.bool false) ∧ Jx (pre ++ [x]) W'))
    (W : World) (hJ : AbidesFrom W.heap.size J) (hn₀ : n₀ ≤ W.heap.size) (hB0 : Bs < n₀) (hBs : W.cell? ⟨Bs, 0, none⟩ = some (.slice a xs.length c)) (hc : IsIn n₀ W a xs.length xs) (h0 : J [] W) :
    CallsIn F n Try.prog 74 #[.func (.yield l) #[] #[], .pointer (some ⟨Bs, 0, none⟩)] W fun e W' => (∃ v, e = .returned v) ∧
      ((∃ ys, ys = back xs ∧ J ys W') ∨ (∃ pre, pre <+: back xs ∧ Jx pre W')) := by
  refine callsIn_of_wp Try.func74 rfl h74 ?_ hro
  simp only [Try.ntmps74, List.size_toArray, List.length_cons, List.length_nil, Nat.reduceAdd, Nat.reduceSub, Array.replicate_succ, Array.replicate_zero, List.push_toArray, List.append_toArray, List.nil_append, List.cons_append]
  have hw0 : IntKind.i64.wrap ((xs.length : Int) - 1) = (xs.length : Int) - 1 := IntWalk.i64_in _ (by omega)
  gi_wp2
  gi_loopw [3] (fun i wr => ∃ k : Nat, k ≤ xs.length ∧ i = .int .i64 ((xs.length : Int) - 1 - (k : Int)) ∧ J ((back xs).take k) wr ∧ Below n₀ W wr ∧ W.heap.size ≤ wr.heap.size)
    (fun i _ => (intOf i + 1).toNat)
  case atStart => exact ⟨0, Nat.zero_le _, by simp, h0, Below.refl _ _, Nat.le_refl _⟩
  case round =>
    clear hw0
    obtain ⟨k, hk, rfl, hJs, hnx, hws⟩ := hrel
    have hcB : wr.cell? ⟨Bs, 0, none⟩ = some (.slice a xs.length c) := (hnx.cell (p := ⟨Bs, 0, none⟩) hB0).trans hBs
    by_cases hlt : k < xs.length
    · obtain ⟨q, hq⟩ : ∃ q : Nat, xs.length - 1 - k = q := ⟨_, rfl⟩
      have hqi : (xs.length : Int) - 1 - (k : Int) = (q : Int) := by omega
      have hqn : q < xs.length := by omega
      obtain ⟨b, off, rfl, hbn, hcc⟩ := (hc.keep hnx).2 (by omega)
      have c0 := hcc q hqn
      have hts : (back xs).take (k + 1) = (back xs).take k ++ [((q : Int), xs[q])] := by
        rw [List.take_succ_eq_append_getElem (by rw [back_len]; exact hlt), back_at xs k hlt]
        simp only [hq]
      obtain ⟨x, hx⟩ : ∃ x, xs[q] = x := ⟨_, rfl⟩
      rw [hx] at c0 hts
      rw [hqi]
      obtain ⟨fn, tmps, assign, body, hy, hR⟩ := hY _ ((q : Int), x) _ hJs (by rw [List.length_take, back_len]; omega)
      unfold pv at hy
      dsimp only at hy
      have hqI : (q : Int) < (xs.length : Int) := by omega
      have hq1 : IntKind.i64.wrap ((q : Int) - 1) = (q : Int) - 1 := IntWalk.i64_in _ (by omega)
      have Hts := Lib.hid hts
      have HC := Lib.hid hc
      have Hq := Lib.hid hqi
      clear hts hx hcc hc hqi hq
      gi_wp2
      refine hR.mono ?_
      rintro e W3 (⟨rfl, hJ3, hk3⟩ | ⟨rfl, hJx3⟩)
      · have hs3 := hk3.size
        gi_wp2
        go_roundw
        case rel => exact ⟨k + 1, by omega, by (have := Hq.out; congr 1; push_cast; omega), by rw [Hts.out]; exact hJ3, hnx.trans hk3, by omega⟩
        case measure => have := Hq.out; simp [intOf]
      · gi_wp2
        refine bodyPost_ret (results_none rfl _ _ _) rfl ?_
        exact ⟨⟨_, rfl⟩, .inr ⟨(back xs).take (k + 1), List.take_prefix _ _, by rw [Hts.out]; exact hJx3⟩⟩
    · obtain rfl : k = xs.length := by omega
      have hqi : (xs.length : Int) - 1 - (xs.length : Int) = -1 := by omega
      rw [hqi]
      clear hqi
      gi_wp2
      go_end0
      exact ⟨⟨_, rfl⟩, .inl ⟨_, by rw [← back_len xs, List.take_length], hJs⟩⟩

theorem back_stops (F : Fence) (n : Nat) (h74 : F.fn 74) (hro : F.round = none) (hn : 1 ≤ n) (Bs n₀ c : Nat) (a : Option Addr) (xs : List Int) (hlen : xs.length ≤ 4096) (w : World) (hBs : Bs < w.heap.size) (hB0 : Bs < n₀) (hn₀ : n₀ ≤ w.heap.size)
    (hc : w.cell? ⟨Bs, 0, none⟩ = some (.slice a xs.length c)) (hx : IsIn n₀ w a xs.length xs) :
    SeqStopsK F n Try.prog 74 #[.pointer (some ⟨Bs, 0, none⟩)] pv (Below n₀) (fun ys => ys = back xs) (fun pre => pre <+: back xs) (back xs).length w := fun l J Jx W hW hJ hJx hY h0 =>
  back1_in F n h74 hro hn l Bs n₀ c a xs hlen J Jx hY W hJ (Nat.le_trans hn₀ hW.size) hB0 ((hW.cell (p := ⟨Bs, 0, none⟩) hBs).trans hc) (hx.keep (hW.mono hn₀)) h0

set_option maxHeartbeats 1000000 in
theorem backward_in (F : Fence) (n : Nat) (h67 : F.fn 67) (hro : F.round = none) (a : Option Addr) (len cap : Nat) (w : World) :
    CallsIn F n Try.prog 67 #[.slice a len cap] w fun e w' => e = .returned (.func (.func 74) #[] #[.pointer (some ⟨w.heap.size, 0, none⟩)]) ∧ w' = w.alloc (.cells #[.slice a len cap] 70) := by
  refine callsIn_of_wp Try.func67 rfl h67 ?_ hro
  simp only [Try.ntmps67, List.size_toArray, List.length_cons, List.length_nil, Nat.reduceAdd, Nat.reduceSub, Array.replicate_succ, Array.replicate_zero, List.push_toArray, List.append_toArray, List.nil_append, List.cons_append]
  gi_wp2
  go_ret
  exact ⟨rfl, rfl⟩
end Go.Proofs.Ytaogdgbijjjpjaa
