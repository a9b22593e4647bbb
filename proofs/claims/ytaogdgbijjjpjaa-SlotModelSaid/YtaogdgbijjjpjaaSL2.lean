/- SLOTS: slices.DeleteFunc. -/
import Derived.Test.YtaogdgbijjjpjaaSL1
import Derived.Lib.SliceRun
import Derived.Laws.IdiomCopy
import Derived.Deep.AppendLies
namespace Go.Proofs.Ytaogdgbijjjpjaa
open Go.RowKit
set_option linter.unusedVariables false

theorem zero59 : ∀ w, (zeroValue 59).run Try.prog w = .ok (.agg #[.int .i64 0, .int .i64 0, .int .i64 0, .int .i64 0]) w := fun w => by
  obtain ⟨i0, ki, kz0, kz1, kz2⟩ := info_parts (P := Try.prog) (e := 59) (show (Try.prog.info? 59).map (fun i => (i.zero, i.size, i.bytes)) = some (some (.agg #[.int .i64 0, .int .i64 0, .int .i64 0, .int .i64 0]), 4, 32) by kernel_rfl)
  have e : Try.t59 = i0 := by
    have h : Try.prog.info? 59 = some Try.t59 := by kernel_rfl
    rw [ki] at h
    exact (Option.some.inj h).symm
  simp [zeroValue, e, kz0]

theorem run_clear4 (w : World) (ty : TypeId) (b o n c : Nat) (hn : 0 < n)
    (hc : ∀ j, j < n * 4 → (w.cell? ⟨b, o + j, none⟩).isSome = true) (hf : ∀ j, j < n * 4 → w.frozen? ⟨b, o + j, none⟩ = false) :
    (Builtin.clear_ #[55] ty #[.slice (some ⟨b, o, none⟩) n c]).run Try.prog w = .ok (.tuple #[]) (w.setCells b o (List.replicate (n * 4) (.int .i64 0))) := by
  have hzc : (Builtin.zeroCells (Value.agg #[.int .i64 0, .int .i64 0, .int .i64 0, .int .i64 0]).cells n).toList = List.replicate (n * 4) (.int .i64 0) := by
    simp only [Value.cells, Builtin.zeroCells]
    apply List.ext_getElem
    · simp
    · intro i h1 h2
      have : i % 4 = 0 ∨ i % 4 = 1 ∨ i % 4 = 2 ∨ i % 4 = 3 := by omega
      rcases this with h | h | h | h <;> simp [h]
  have hst := run_storeCells_cells (P := Try.prog) b o (List.replicate (n * 4) (.int .i64 0)) 0 w (by simpa using hc) (by simpa using hf) (by intro v hv'; rw [List.eq_of_mem_replicate hv']; rfl)
  simp only [Nat.add_zero] at hst
  obtain ⟨m, rfl⟩ : ∃ m, n = m + 1 := ⟨n - 1, by omega⟩
  simp [Builtin.clear_, run_underlying Try.underlying55, hzc, hst]

theorem setCells_heap (g : Nat) : ∀ (vs : List Value) (o : Nat) (w : World) (cur : Array Value) (e : TypeId), w.heap[g]? = some (.cells cur e) →
    ∃ cur', (w.setCells g o vs).heap[g]? = some (.cells cur' e) ∧ cur'.size = cur.size ∧ ∀ m, m ≤ o → cur'.toList.take m = cur.toList.take m
  | [], o, w, cur, e, h => ⟨cur, h, rfl, fun _ _ => rfl⟩
  | v :: r, o, w, cur, e, h => by
    obtain ⟨cur', h1, h2, h3⟩ := setCells_heap g r (o + 1) (w.setCell ⟨g, o, none⟩ v) (cur.setIfInBounds o v) e (heap_setCell_same _ _ _ _ _ _ h)
    refine ⟨cur', h1, by rw [h2]; simp, fun m hm => ?_⟩
    rw [h3 m (by omega), Array.toList_setIfInBounds, List.take_set_of_le hm]
theorem setCells_fr (g : Nat) : ∀ (vs : List Value) (o : Nat) (a w : World), Fr (· = g) a w → Fr (· = g) a (w.setCells g o vs)
  | [], _, _, _, h => h
  | v :: r, o, a, w, h => setCells_fr g r (o + 1) a _ (h.setCell (p := ⟨g, o, none⟩) rfl v)
theorem own_clear {w : World} {base e cap g n k : Nat} {l : List Q} (h : w.ownsRow base e 4 (.slice (some ⟨g, 0, none⟩) n cap) n (l.flatMap qc)) (hl : l.length = n) (hk : k ≤ n) (vs : List Value) :
    (w.setCells g (k * 4) vs).ownsRow base e 4 (.slice (some ⟨g, 0, none⟩) k cap) k ((l.take k).flatMap qc) := by
  obtain ⟨h1, h2⟩ := ownsRow_prefix h hl hk
  refine ⟨h1, ?_⟩
  rcases h2 with ⟨hv, _⟩ | ⟨g', cap', cur, hv, hb, hh, hc, hm, hs, ht⟩
  · simp at hv
  · simp only [Value.slice.injEq, Option.some.injEq, Addr.mk.injEq, true_and, and_true] at hv
    obtain ⟨rfl, rfl⟩ := hv
    obtain ⟨cur', c1, c2, c3⟩ := setCells_heap g vs (k * 4) w cur _ hh
    exact .inr ⟨g, cap, cur', rfl, hb, c1, hc, hm, by rw [c2]; exact hs, by rw [c3 _ (Nat.le_refl _)]; exact ht⟩

/-- How far the row is kept. -/
structure Del (l l' : List Q) (pr : Q → Bool) (i j : Nat) : Prop where
  len : l'.length = l.length
  lt : i < j
  le : j ≤ l.length
  kept : l'.take i = (l.take j).filter fun x => !pr x
  rest : ∀ q (h : q < l.length), j ≤ q → l'[q]'(by rw [len]; exact h) = l[q]
theorem Del.start {l : List Q} {pr : Q → Bool} {q : Nat} (hq : q < l.length) (hp : pr l[q] = true) (hno : ∀ j (h : j < l.length), j < q → pr l[j] = false) : Del l l pr q (q + 1) where
  len := rfl
  lt := by omega
  le := by omega
  kept := by
    rw [List.take_succ_eq_append_getElem hq, List.filter_append]
    have h1 : (l.take q).filter (fun x => !pr x) = l.take q := List.filter_eq_self.2 fun x hx => by
      obtain ⟨j, hj, rfl⟩ := List.mem_iff_getElem.1 hx
      rw [List.length_take] at hj
      rw [List.getElem_take, hno j (by omega) (by omega)]; rfl
    rw [h1]
    simp [hp]
  rest := fun _ _ _ => rfl
theorem Del.skip {l l' : List Q} {pr : Q → Bool} {i j : Nat} (h : Del l l' pr i j) (hj : j < l.length) (hp : pr l[j] = true) : Del l l' pr i (j + 1) where
  len := h.len
  lt := by have := h.lt; omega
  le := by omega
  kept := by rw [List.take_succ_eq_append_getElem hj, List.filter_append, ← h.kept]; simp [hp]
  rest := fun q hq hjq => h.rest q hq (by omega)
theorem Del.take {l l' : List Q} {pr : Q → Bool} {i j : Nat} (h : Del l l' pr i j) (hj : j < l.length) (hp : pr l[j] = false) : Del l (l'.set i l[j]) pr (i + 1) (j + 1) where
  len := by rw [List.length_set, h.len]
  lt := by have := h.lt; omega
  le := by omega
  kept := by
    have hi : i < l'.length := by rw [h.len]; have := h.lt; omega
    rw [List.take_succ_eq_append_getElem (by rw [List.length_set]; exact hi), List.take_succ_eq_append_getElem hj, List.filter_append, List.getElem_set_self, List.take_set_of_le (Nat.le_refl _), h.kept]
    simp [hp]
  rest := fun q hq hjq => by rw [List.getElem_set_ne (by have := h.lt; omega)]; exact h.rest q hq (by omega)
theorem Del.done {l l' : List Q} {pr : Q → Bool} {i : Nat} (h : Del l l' pr i l.length) : l'.take i = l.filter (fun x => !pr x) := by rw [h.kept, List.take_length]
theorem Del.cnt {l l' : List Q} {pr : Q → Bool} {i : Nat} (h : Del l l' pr i l.length) : i = (l.filter fun x => !pr x).length := by
  rw [← h.done, List.length_take, h.len]; have := h.lt; omega

set_option maxHeartbeats 4000000 in
set_option maxRecDepth 100000 in
theorem delete_any (B : Nat) (a : Option Addr) (c : Nat) (l : List Q) (pr : Q → Bool) (gf : Nat) (lb : Array Value) (w : World) (eg : ∀ args w, (callFunc gf args).run Try.prog w = .ok (.enter gf args) w)
    (ho : w.ownsRow B 59 4 (.slice a l.length c) l.length (l.flatMap qc)) (hll : l.length ≤ 9223372036854775807)
    (hp : ∀ W, Fr (fun k => (Value.slice a l.length c).ownBlock = some k) w W → ∀ x, Calls Try.prog gf (#[qv x] ++ lb) W fun e w' => e = .returned (.bool (pr x)) ∧ Below W.heap.size W w') :
    Calls Try.prog 49 #[.slice a l.length c, .func (.func gf) #[] lb] w fun e w' => e = .returned (.slice a (l.filter fun x => !pr x).length c) ∧ w'.ownsRow B 59 4 (.slice a (l.filter fun x => !pr x).length c) (l.filter fun x => !pr x).length ((l.filter fun x => !pr x).flatMap qc) ∧ Fr (fun k => (Value.slice a l.length c).ownBlock = some k) w w' := by
  have C := Lib.hid (idxS_any w.heap.size a l.length c l pr gf lb w eg (qs_of_own ho rfl) (Nat.le_refl _) hll fun W hW x => hp W (Fr.of_below hW) x)
  have HP := Lib.hid hp
  have HO := Lib.hid ho
  clear hp ho
  go_enter Try.func49, Try.ntmps49
  go_wp2_with fail
  refine C.out.mono ?_
  rintro e w2 ⟨⟨r, rfl, hr⟩, hb2⟩
  rcases hr with ⟨rfl, hno⟩ | ⟨q, hq, rfl, hpq, hno⟩
  · have hf : (l.filter fun x => !pr x) = l := List.filter_eq_self.2 fun x hx => by
      obtain ⟨j, hj, rfl⟩ := List.mem_iff_getElem.1 hx
      rw [hno j hj]; rfl
    have HF := Lib.hid hf
    have Hb2 := Lib.hid hb2
    clear hno hf C hb2
    go_wp2_with fail
    go_ret
    rw [HF.out]
    exact ⟨rfl, ownsRow_keep HO.out fun k hk => Hb2.out.block k (ownsRow_lt HO.out k hk), Fr.of_below Hb2.out⟩
  · have HD := Lib.hid (Del.start hq hpq hno)
    obtain ⟨g, cap, hv, hg0, hg, _, _, _⟩ := ownsRow_cells HO.out (by omega)
    simp only [Value.slice.injEq] at hv
    obtain ⟨rfl, _, rfl⟩ := hv
    have hf2 : Fr (· = g) w w2 := Fr.of_below hb2
    have ho2 := Lib.hid (ownsRow_keep (w' := w2) HO.out fun k hk => hb2.block k (ownsRow_lt HO.out k hk))
    have HP2 : Hid (∀ W, Fr (· = g) w W → ∀ x, Calls Try.prog gf (#[qv x] ++ lb) W fun e w' => e = .returned (.bool (pr x)) ∧ Below W.heap.size W w') := fun W hW x => HP.out W (hW.mono fun i _ e => by simp [Value.ownBlock, e]) x
    have hqI : (q : Int) < (l.length : Int) := by omega
    have hqe : ((q : Int) == -1) = false := by simp
    have hqs : IntKind.i64.wrap ((q : Int) + 1) = (q : Int) + 1 := IntWalk.i64_in _ (by omega)
    have Hf2 := Lib.hid hf2
    clear hno hpq C HP hb2 hf2
    go_wp2_with fail
    go_loopw [5, 6] (fun si sj wr => ∃ (i j : Nat) (l' : List Q), si = .int .i64 i ∧ sj = .int .i64 j ∧ i < j ∧ j ≤ l.length ∧ Hid (Del l l' pr i j) ∧ Hid (wr.ownsRow B 59 4 (.slice (some ⟨g, 0, none⟩) l.length c) l.length (l'.flatMap qc)) ∧ Hid (Fr (· = g) w wr)) (fun _ sj _ => l.length - (intOf sj).toNat)
    case atStart => exact ⟨q, q + 1, l, rfl, by go_num, by omega, by omega, HD.out, ho2.out, Hf2.out⟩
    case round =>
      clear HD ho2 Hf2 hqI hqs
      obtain ⟨i, j, l', rfl, rfl, hij, hjl, HD, HOw, HFr⟩ := hrel
      by_cases hj : j < l.length
      · have hl' : l'.length = l.length := HD.out.len
        have hQ : Q4 wr g (j * 4) l[j] := by
          obtain ⟨g', off', e, _, hc⟩ := (qs_of_own (l := l') (by rw [hl']; exact HOw.out) hl'.symm).2 (by omega)
          obtain ⟨g2, cap2, hv2, _, _, _, hcell, _⟩ := ownsRow_cells HOw.out (by omega)
          have := fun k (hk : k < 4) => flat_at l' j k (by omega) hk
          have hv3 : g2 = g := by simp only [Value.slice.injEq, Option.some.injEq, Addr.mk.injEq] at hv2; exact hv2.1.1.symm
          subst hv3
          rw [← HD.out.rest j hj (Nat.le_refl _)]
          exact ⟨hcell _ _ (this 0 (by omega)), hcell _ _ (this 1 (by omega)), hcell _ _ (this 2 (by omega)), hcell _ _ (this 3 (by omega))⟩
        obtain ⟨x, hx⟩ : ∃ x, l[j] = x := ⟨_, rfl⟩
        have HX := Lib.hid hx
        rw [hx] at hQ
        obtain ⟨x0, x1, x2, x3⟩ := x
        obtain ⟨c0, c1, c2, c3⟩ := hQ
        simp only at c0 c1 c2 c3
        clear hx
        have hbx : g < wr.heap.size := by have := HFr.out.size; omega
        have P := HP2.out (wr.alloc (.cells #[.int .i64 x0, .int .i64 x1, .int .i64 x2, .int .i64 x3] 59)) (HFr.out.alloc _) (x0, x1, x2, x3)
        unfold qv at P
        have hb3 : Below wr.heap.size wr (wr.alloc (.cells #[.int .i64 x0, .int .i64 x1, .int .i64 x2, .int .i64 x3] 59)) := (Below.refl _ _).alloc (Nat.le_refl _) _
        have u0 := cell_newb wr #[.int .i64 x0, .int .i64 x1, .int .i64 x2, .int .i64 x3] 59 _ 0 _ rfl rfl
        have u1 := cell_newb wr #[.int .i64 x0, .int .i64 x1, .int .i64 x2, .int .i64 x3] 59 _ 1 _ rfl rfl
        have u2 := cell_newb wr #[.int .i64 x0, .int .i64 x1, .int .i64 x2, .int .i64 x3] 59 _ 2 _ rfl rfl
        have u3 := cell_newb wr #[.int .i64 x0, .int .i64 x1, .int .i64 x2, .int .i64 x3] 59 _ 3 _ rfl rfl
        have hsz : wr.heap.size < (wr.alloc (.cells #[.int .i64 x0, .int .i64 x1, .int .i64 x2, .int .i64 x3] 59)).heap.size := by simp
        have HO3 := Lib.hid (ownsRow_keep (w' := wr.alloc (.cells #[.int .i64 x0, .int .i64 x1, .int .i64 x2, .int .i64 x3] 59)) HOw.out fun k hk => hb3.block k (ownsRow_lt HOw.out k hk))
        have HF3 := Lib.hid (HFr.out.alloc (.cells #[.int .i64 x0, .int .i64 x1, .int .i64 x2, .int .i64 x3] 59))
        have hjI : (j : Int) < (l.length : Int) := by omega
        have hiI : (i : Int) < (l.length : Int) := by omega
        have hbx3 : wr.heap.size ≠ g := by omega
        cases hpx : pr (x0, x1, x2, x3)
        · have HD2 : Hid (Del l (l'.set i (x0, x1, x2, x3)) pr (i + 1) (j + 1)) := by
            have h := HD.out.take hj (by rw [HX.out]; exact hpx)
            rw [HX.out] at h
            exact h
          rw [hpx] at P
          have HPx := Lib.hid P
          clear P hpx HX hb3 HP2 HOw HFr HD
          go_wp2_with fail
          generalize wr.alloc (.cells #[.int .i64 x0, .int .i64 x1, .int .i64 x2, .int .i64 x3] 59) = w3 at *
          generalize wr.heap.size = bx at *
          refine HPx.out.mono ?_
          rintro e w4 ⟨rfl, hb4⟩
          have HO4 := Lib.hid (ownsRow_keep (w' := w4) HO3.out fun k hk => hb4.block k (ownsRow_lt HO3.out k hk))
          have HF4 := Lib.hid (HF3.out.trans (T := fun _ => False) (U := (· = g)) (Fr.of_below hb4) (fun _ _ h => h) (by simp))
          have v0 := (hb4.cell (p := ⟨bx, 0, none⟩) hsz).trans u0
          have v1 := (hb4.cell (p := ⟨bx, 1, none⟩) hsz).trans u1
          have v2 := (hb4.cell (p := ⟨bx, 2, none⟩) hsz).trans u2
          have v3 := (hb4.cell (p := ⟨bx, 3, none⟩) hsz).trans u3
          obtain ⟨g2, cap2, hv2, _, _, _, hcell, hfz⟩ := ownsRow_cells HO4.out (by omega)
          have hv3 : g2 = g := by simp only [Value.slice.injEq, Option.some.injEq, Addr.mk.injEq] at hv2; exact hv2.1.1.symm
          subst hv3
          have T := fun k (hk : k < 4) => flat_at l' i k (by omega) hk
          have d0 := hcell _ _ (T 0 (by omega))
          have d1 := hcell _ _ (T 1 (by omega))
          have d2 := hcell _ _ (T 2 (by omega))
          have d3 := hcell _ _ (T 3 (by omega))
          rw [Nat.add_zero] at d0
          have f0 := hfz (i * 4)
          have f1 := hfz (i * 4 + 1)
          have f2 := hfz (i * 4 + 2)
          have f3 := hfz (i * 4 + 3)
          have HO5 := Lib.hid (ownsRow_set4 HO4.out hl' i (by omega) (x0, x1, x2, x3))
          have HF5 := Lib.hid (HF4.out.trans (U := (· = g2)) (set4_fr w4 g2 (i * 4) (x0, x1, x2, x3)) (fun _ _ h => h) (fun _ _ h => h))
          unfold set4 at HO5 HF5
          simp only at HO5 HF5
          clear u0 u1 u2 u3 hcell hfz T hv2 HO4 HF4 HO3 HF3 HPx hb4 c0 c1 c2 c3
          go_wp2_with fail
          go_roundw
          case rel => exact ⟨i + 1, j + 1, _, by go_num, by go_num, by omega, by omega, HD2.out, HO5.out, HF5.out⟩
          case measure => simp [intOf]; omega
        · have HD2 : Hid (Del l l' pr i (j + 1)) := HD.out.skip hj (by rw [HX.out]; exact hpx)
          rw [hpx] at P
          have HPx := Lib.hid P
          clear P hpx HX hb3 HP2 HOw HFr HD
          go_wp2_with fail
          generalize wr.alloc (.cells #[.int .i64 x0, .int .i64 x1, .int .i64 x2, .int .i64 x3] 59) = w3 at *
          generalize wr.heap.size = bx at *
          refine HPx.out.mono ?_
          rintro e w4 ⟨rfl, hb4⟩
          have HO4 := Lib.hid (ownsRow_keep (w' := w4) HO3.out fun k hk => hb4.block k (ownsRow_lt HO3.out k hk))
          have HF4 := Lib.hid (HF3.out.trans (T := fun _ => False) (U := (· = g)) (Fr.of_below hb4) (fun _ _ h => h) (by simp))
          clear u0 u1 u2 u3 HO3 HF3 HPx hb4 c0 c1 c2 c3
          go_wp2_with fail
          go_roundw
          case rel => exact ⟨i, j + 1, l', rfl, by go_num, by omega, by omega, HD2.out, HO4.out, HF4.out⟩
          case measure => simp [intOf]; omega
      · obtain rfl : j = l.length := by omega
        have hl' : l'.length = l.length := HD.out.len
        have Hcnt := Lib.hid HD.out.cnt
        have Hdone := Lib.hid HD.out.done
        have HC2 := Lib.hid (own_clear HOw.out hl' (Nat.le_of_lt hij) (List.replicate ((l.length - i) * 4) (.int .i64 0)))
        have HF2 := Lib.hid (setCells_fr g (List.replicate ((l.length - i) * 4) (.int .i64 0)) (i * 4) w wr HFr.out)
        obtain ⟨g2, cap2, hv2, _, _, _, hcell, hfz⟩ := ownsRow_cells HOw.out (by omega)
        simp only [Value.slice.injEq, Option.some.injEq, Addr.mk.injEq] at hv2
        obtain ⟨⟨rfl, _⟩, _, rfl⟩ := hv2
        have hcap : l.length ≤ c := by
          rcases HOw.out.2 with ⟨hv, _⟩ | ⟨g', cap', cur, hv, _, _, hn, _⟩
          · simp at hv
          · simp only [Value.slice.injEq, Option.some.injEq, Addr.mk.injEq] at hv
            obtain ⟨_, _, rfl⟩ := hv
            exact hn
        have HCell : Hid (∀ o, o < l.length * 4 → (wr.cell? ⟨g, o, none⟩).isSome = true) := fun o ho => by
          rw [hcell o _ (List.getElem?_eq_getElem (by rw [flat_length, hl']; exact ho))]; rfl
        have HFz := Lib.hid hfz
        have hiI : (i : Int) < (l.length : Int) := by omega
        have hic : (i : Int) ≤ (c : Int) := by omega
        have hlc : (l.length : Int) ≤ (c : Int) := by omega
        have hne : ¬ c = i := by omega
        clear hcell hfz HOw HFr HD HP2
        have R := run_clear4 wr 0 g (i * 4) (l.length - i) (c - i) (by omega) (fun j hj => HCell.out _ (by omega)) (fun j _ => HFz.out _)
        generalize wr.setCells g (i * 4) (List.replicate ((l.length - i) * 4) (.int .i64 0)) = wz at *
        go_wp2_with fail
        go_ret
        rw [← Hcnt.out]
        rw [Hdone.out] at HC2
        exact ⟨rfl, HC2.out, HF2.out.mono fun _ _ e => by simp [Value.ownBlock, e]⟩
end Go.Proofs.Ytaogdgbijjjpjaa
