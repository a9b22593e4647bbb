/- WALKS: slices.Collect, slices.SortedFunc, the heap's Sorted. -/
import Derived.Test.YtaogdgbijjjpjaaIt2
import Derived.Test.YtaogdgbijjjpjaaSortK
namespace Go.Proofs.Ytaogdgbijjjpjaa
open Go.RowKit Go.Shelf
set_option linter.unusedVariables false

set_option maxRecDepth 100000 in
set_option maxHeartbeats 1000000 in
theorem collect_in (F : Fence) (n : Nat) (h60 : F.fn 60) (h71 : F.fn 71) (h62 : F.fn 62) (hro : F.round = none) (hn : 4 ≤ n) (Bs c : Nat) (a : Option Addr) (xs : List Q) (hlen : xs.length ≤ 4096) (w : World) (hBs : Bs < w.heap.size)
    (hc : w.cell? ⟨Bs, 0, none⟩ = some (.slice a xs.length c)) (hx : QsIn w.heap.size w a xs.length xs) :
    CallsIn F n Try.prog 60 #[.func (.func 62) #[] #[.pointer (some ⟨Bs, 0, none⟩)]] w fun e W' => ∃ v, e = .returned v ∧ W'.ownsRow w.heap.size 23 4 v xs.length (xs.flatMap qc) ∧ Below w.heap.size w W' := by
  have h1 : 1 ≤ n := by omega
  refine callsIn_of_wp Try.func60 rfl h60 ?_ hro
  simp only [Try.ntmps60, List.size_toArray, List.length_cons, List.length_nil, Nat.reduceAdd, Nat.reduceSub, Array.replicate_succ, Array.replicate_zero, List.push_toArray, List.append_toArray, List.nil_append, List.cons_append]
  gi_wp2_with (gi_at_call 71; refine (appendSeq_in F (n - 1) h71 h62 hro (by omega) Bs c a xs hlen w hBs hc hx).mono ?_; rintro e w' ⟨v, rfl, hown, hb⟩)
  go_ret
  exact ⟨v, rfl, hown, hb⟩

theorem collect_any (Bs c : Nat) (a : Option Addr) (xs : List Q) (hlen : xs.length ≤ 4096) (w : World) (hBs : Bs < w.heap.size)
    (hc : w.cell? ⟨Bs, 0, none⟩ = some (.slice a xs.length c)) (hx : QsIn w.heap.size w a xs.length xs) :
    Calls Try.prog 60 #[.func (.func 62) #[] #[.pointer (some ⟨Bs, 0, none⟩)]] w fun e W' => ∃ v, e = .returned v ∧ W'.ownsRow w.heap.size 23 4 v xs.length (xs.flatMap qc) ∧ Below w.heap.size w W' :=
  callsIn_wide.1 (collect_in Fence.wide 4 trivial trivial trivial rfl (Nat.le_refl _) Bs c a xs hlen w hBs hc hx)

theorem values_any (a : Option Addr) (len cap : Nat) (w : World) :
    Calls Try.prog 45 #[.slice a len cap] w fun e w' => e = .returned (.func (.func 62) #[] #[.pointer (some ⟨w.heap.size, 0, none⟩)]) ∧ w' = w.alloc (.cells #[.slice a len cap] 27) :=
  callsIn_wide.1 (values_in Fence.wide 1 trivial rfl a len cap w)

set_option maxHeartbeats 1000000 in
theorem sortedFunc_any (Bs c : Nat) (a : Option Addr) (xs : List Q) (hlen : xs.length ≤ 4096) (w : World) (hBs : Bs < w.heap.size)
    (hc : w.cell? ⟨Bs, 0, none⟩ = some (.slice a xs.length c)) (hx : QsIn w.heap.size w a xs.length xs) :
    Calls Try.prog 44 #[.func (.func 62) #[] #[.pointer (some ⟨Bs, 0, none⟩)], .func (.func 15) #[] #[]] w fun e W' => ∃ (v : Value) (l' : List Q), e = .returned v ∧ l'.Perm xs ∧ l'.Pairwise (fun x y => ltK y x = false) ∧ W'.ownsRow w.heap.size 23 4 v l'.length (l'.flatMap qc) ∧ Below w.heap.size w W' := by
  have C := Lib.hid (collect_any Bs c a xs hlen w hBs hc hx)
  clear hx hc
  go_enter Try.func44, Try.ntmps44
  go_wp2_with fail
  refine C.out.mono ?_
  rintro e w2 ⟨v, rfl, hown, hb⟩
  obtain ⟨a2, c2, rfl⟩ := ownsRow_form hown
  have S := Lib.hid (sort_ownK w.heap.size a2 xs.length c2 xs w2 hown rfl (by omega))
  have Hob := Lib.hid (ownsRow_block hown)
  have Hb := Lib.hid hb
  clear hown hb C
  go_wp2_with fail
  refine S.out.mono ?_
  rintro e w3 ⟨rfl, l', hp, hs, hown, hf⟩
  have hl := hp.length_eq
  go_wp2_with fail
  go_ret
  refine ⟨_, l', rfl, hp, hs, by rw [hl]; rw [hl] at hown; exact hown, Hb.out.trans (hf.below (fun i hi h => ?_) Hb.out.size)⟩
  cases a2 with
  | none => simp at h
  | some x => exact Hob.out i (by simpa [Value.ownBlock] using h)

set_option maxHeartbeats 1000000 in
theorem sorted_any {B : Nat} {w : World} {p : Nat} {F : Nat → Prop} {l : List Q} {room : Nat} (h : HA 23 B w p F l room) (hll : l.length ≤ 4096) :
    Calls Try.prog 19 #[.pointer (some ⟨p, 0, none⟩)] w fun e W' => ∃ (v : Value) (l' : List Q), e = .returned v ∧ l'.Perm l ∧ l'.Pairwise (fun x y => ltK y x = false) ∧ W'.ownsRow w.heap.size 23 4 v l'.length (l'.flatMap qc) ∧ Below w.heap.size w W' := by
  obtain ⟨a, c, hc, ho, _⟩ := h.row
  have hb1 : Below w.heap.size w (w.alloc (.cells #[.slice a l.length c] 27)) := (Below.refl _ _).alloc (Nat.le_refl _) _
  have hx := (qs_of_own ho rfl).keep hb1
  have S := Lib.hid (sortedFunc_any w.heap.size c a l hll (w.alloc (.cells #[.slice a l.length c] 27)) (by simp) (cell_newb _ _ _ _ 0 _ rfl rfl) ⟨hx.1, fun h0 => by obtain ⟨b, off, e, hb, hcc⟩ := hx.2 h0; exact ⟨b, off, e, by simp; omega, hcc⟩⟩)
  have Hb1 := Lib.hid hb1
  clear hx ho h hb1
  go_enter Try.func19, Try.ntmps19
  go_wp2_with fail
  refine (values_any a l.length c w).mono ?_
  rintro e w' ⟨rfl, rfl⟩
  go_wp2_with fail
  refine S.out.mono ?_
  rintro e w3 ⟨v, l', rfl, hp, hs, hown, hb⟩
  go_wp2_with fail
  go_ret
  exact ⟨v, l', rfl, hp, hs, ownsRow_base hown (by simp), Hb1.out.trans (hb.mono (by simp))⟩
end Go.Proofs.Ytaogdgbijjjpjaa
