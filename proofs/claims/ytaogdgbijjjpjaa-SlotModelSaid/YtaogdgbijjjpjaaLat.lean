/- SLOTS: latest. -/
import Derived.Test.YtaogdgbijjjpjaaBack
import Derived.Test.YtaogdgbijjjpjaaSortI
import Derived.Test.YtaogdgbijjjpjaaSL1
namespace Go.Proofs.Ytaogdgbijjjpjaa
open Go.RowKit Go.Shelf
set_option linter.unusedVariables false
attribute [local go_sem] Oper.semAt_some

theorem Try.info3 : (Try.prog.info? 3).map (fun i => (i.zero, i.size, i.bytes)) = some (some (.int .i64 0), 1, 8) := by kernel_rfl

def places (len t : Int) (l : List Q) : List Int := (t - len) :: l.map fun s => s.2.2.1 - len
def okP (g len f t : Int) (l : List Q) (p : Int) : Bool := decide (f ≤ p) && (decide (p + len ≤ t) && !(l.any (hits g p (p + len))))
/-- The same, as the machine adds. -/
def okW (g len f t : Int) (l : List Q) (p : Int) : Bool := decide (f ≤ p) && (decide (IntKind.i64.wrap (p + len) ≤ t) && !(l.any (hits g p (IntKind.i64.wrap (p + len)))))
def srtP (len t : Int) (l : List Q) : List Int := (places len t l).mergeSort fun x y => decide (x ≤ y)
def latM (g len f t : Int) (l : List Q) : Int × Bool := match (srtP len t l).reverse.find? (okP g len f t l) with | some p => (p, true) | none => (0, false)

theorem alloc_cell {w : World} (o : Obj) {a : Addr} {v : Value} (h : w.cell? a = some v) : (w.alloc o).cell? a = some v := by rw [World.cell?_alloc_lt _ _ _ (block_lt h)]; exact h
theorem froz_new (w : World) (cs : Array Value) (T : TypeId) (b : Nat) (hb : b = w.heap.size) : (w.alloc (.cells cs T)).frozen? ⟨b, 0, none⟩ = false := by
  subst hb
  have := World.alloc_heap_new w (.cells cs T)
  simp only [World.frozen?, this]
  rfl
theorem froz_old {w : World} (o : Obj) {b : Nat} (hb : b < w.heap.size) (h : w.frozen? ⟨b, 0, none⟩ = false) : (w.alloc o).frozen? ⟨b, 0, none⟩ = false := by
  have hf : Below w.heap.size w (w.alloc o) := (Below.refl _ _).alloc (Nat.le_refl _) _
  rw [(Fr.of_below (S := fun _ => False) hf).frozen (p := ⟨b, 0, none⟩) hb (by simp)]
  exact h

theorem find_congr (l : List Int) (p q : Int → Bool) (h : ∀ x ∈ l, p x = q x) : l.find? p = l.find? q := by
  induction l with
  | nil => rfl
  | cons x l ih =>
    rw [List.find?_cons, List.find?_cons, h x (List.mem_cons_self ..), ih fun y hy => h y (List.mem_cons_of_mem _ hy)]
theorem okW_eq {g len f t : Int} {l : List Q} (hlen : 1 ≤ len ∧ len ≤ 1048576) (hf : 0 ≤ f) (hft : f ≤ t) (ht : t ≤ 1099511627776) (hl : ∀ s ∈ l, 0 ≤ s.2.2.1 ∧ s.2.2.1 ≤ 1099511627776) (x : Int) (hx : x ∈ srtP len t l) : okW g len f t l x = okP g len f t l x := by
  unfold srtP at hx
  rw [List.mem_mergeSort] at hx
  have hb : -1048576 ≤ x ∧ x ≤ 1099511627776 := by
    unfold places at hx
    rcases List.mem_cons.1 hx with rfl | hx
    · omega
    · obtain ⟨s, hs, rfl⟩ := List.mem_map.1 hx
      have := hl s hs
      omega
  unfold okW okP
  rw [IntWalk.i64_in (x + len) (by omega)]

/-- What latest has boxed. -/
structure B7 (w W : World) (p : Nat) (g len f t : Int) : Prop where
  b0 : W.cell? ⟨w.heap.size, 0, none⟩ = some (.pointer (some ⟨p, 0, none⟩))
  b1 : W.cell? ⟨w.heap.size + 1, 0, none⟩ = some (.int .i64 g)
  b2 : W.cell? ⟨w.heap.size + 1 + 1, 0, none⟩ = some (.int .i64 len)
  b3 : W.cell? ⟨w.heap.size + 1 + 1 + 1, 0, none⟩ = some (.int .i64 f)
  b4 : W.cell? ⟨w.heap.size + 1 + 1 + 1 + 1, 0, none⟩ = some (.int .i64 t)

set_option maxHeartbeats 4000000 in
set_option maxRecDepth 100000 in
theorem latest_any {B : Nat} {w : World} {p : Nat} {F : Nat → Prop} {l : List Q} {room : Nat} (h : HA 59 B w p F l room) (hll : l.length ≤ 256) (g len f t : Int) (hlen : 1 ≤ len ∧ len ≤ 1048576) (hf : 0 ≤ f) (hft : f ≤ t) (ht : t ≤ 1099511627776)
    (hl : ∀ s ∈ l, 0 ≤ s.2.2.1 ∧ s.2.2.1 ≤ 1099511627776) :
    Calls Try.prog 51 #[.pointer (some ⟨p, 0, none⟩), .int .i64 g, .int .i64 len, .int .i64 f, .int .i64 t] w fun e w' => e = .returned (.tuple #[.int .i64 (latM g len f t l).1, .bool (latM g len f t l).2]) ∧ Below w.heap.size w w' := by
  refine (callsIn_wide (n := 6)).1 ?_
  refine callsIn_of_wp_marks Try.func51 rfl trivial ?_ rfl
  simp only [Try.ntmps51, List.size_toArray, List.length_cons, List.length_nil, Nat.reduceAdd, Nat.reduceSub, Array.replicate_succ, Array.replicate_zero, List.push_toArray, List.append_toArray, List.nil_append, List.cons_append]
  have hw1 : IntKind.i64.wrap (t - len) = t - len := IntWalk.i64_in _ (by omega)
  obtain ⟨a, c, hc, ho, _⟩ := h.row
  obtain ⟨i0, hi, hz0, hz1, hz2⟩ := info_parts Try.info3
  have hq0 := qs_of_own ho rfl
  obtain ⟨W1, e1⟩ : ∃ W, w.alloc (.cells #[.pointer (some ⟨p, 0, none⟩)] 52) = W := ⟨_, rfl⟩
  have s1 : W1.heap.size = w.heap.size + 1 := by rw [← e1]; simp
  have c0_1 : W1.cell? ⟨w.heap.size, 0, none⟩ = some (.pointer (some ⟨p, 0, none⟩)) := by rw [← e1]; exact cell_newb _ _ _ _ 0 _ rfl rfl
  have b1 : Below w.heap.size w W1 := by rw [← e1]; exact (Below.refl _ w).alloc (Nat.le_refl _) _
  obtain ⟨W2, e2⟩ : ∃ W, W1.alloc (.cells #[.int .i64 g] 3) = W := ⟨_, rfl⟩
  have s2 : W2.heap.size = w.heap.size + 1 + 1 := by rw [← e2]; simp [s1]
  have c1_2 : W2.cell? ⟨w.heap.size + 1, 0, none⟩ = some (.int .i64 g) := by rw [← e2]; exact cell_newb _ _ _ _ 0 _ s1.symm rfl
  have c0_2 : W2.cell? ⟨w.heap.size, 0, none⟩ = some (.pointer (some ⟨p, 0, none⟩)) := by rw [← e2]; exact alloc_cell _ c0_1
  have b2 : Below w.heap.size w W2 := by rw [← e2]; exact b1.alloc (by rw [s1]; omega) _
  obtain ⟨W3, e3⟩ : ∃ W, W2.alloc (.cells #[.int .i64 len] 3) = W := ⟨_, rfl⟩
  have s3 : W3.heap.size = w.heap.size + 1 + 1 + 1 := by rw [← e3]; simp [s2]
  have c2_3 : W3.cell? ⟨w.heap.size + 1 + 1, 0, none⟩ = some (.int .i64 len) := by rw [← e3]; exact cell_newb _ _ _ _ 0 _ s2.symm rfl
  have c0_3 : W3.cell? ⟨w.heap.size, 0, none⟩ = some (.pointer (some ⟨p, 0, none⟩)) := by rw [← e3]; exact alloc_cell _ c0_2
  have c1_3 : W3.cell? ⟨w.heap.size + 1, 0, none⟩ = some (.int .i64 g) := by rw [← e3]; exact alloc_cell _ c1_2
  have b3 : Below w.heap.size w W3 := by rw [← e3]; exact b2.alloc (by rw [s2]; omega) _
  obtain ⟨W4, e4⟩ : ∃ W, W3.alloc (.cells #[.int .i64 f] 3) = W := ⟨_, rfl⟩
  have s4 : W4.heap.size = w.heap.size + 1 + 1 + 1 + 1 := by rw [← e4]; simp [s3]
  have c3_4 : W4.cell? ⟨w.heap.size + 1 + 1 + 1, 0, none⟩ = some (.int .i64 f) := by rw [← e4]; exact cell_newb _ _ _ _ 0 _ s3.symm rfl
  have c0_4 : W4.cell? ⟨w.heap.size, 0, none⟩ = some (.pointer (some ⟨p, 0, none⟩)) := by rw [← e4]; exact alloc_cell _ c0_3
  have c1_4 : W4.cell? ⟨w.heap.size + 1, 0, none⟩ = some (.int .i64 g) := by rw [← e4]; exact alloc_cell _ c1_3
  have c2_4 : W4.cell? ⟨w.heap.size + 1 + 1, 0, none⟩ = some (.int .i64 len) := by rw [← e4]; exact alloc_cell _ c2_3
  have b4 : Below w.heap.size w W4 := by rw [← e4]; exact b3.alloc (by rw [s3]; omega) _
  obtain ⟨W5, e5⟩ : ∃ W, W4.alloc (.cells #[.int .i64 t] 3) = W := ⟨_, rfl⟩
  have s5 : W5.heap.size = w.heap.size + 1 + 1 + 1 + 1 + 1 := by rw [← e5]; simp [s4]
  have c4_5 : W5.cell? ⟨w.heap.size + 1 + 1 + 1 + 1, 0, none⟩ = some (.int .i64 t) := by rw [← e5]; exact cell_newb _ _ _ _ 0 _ s4.symm rfl
  have c0_5 : W5.cell? ⟨w.heap.size, 0, none⟩ = some (.pointer (some ⟨p, 0, none⟩)) := by rw [← e5]; exact alloc_cell _ c0_4
  have c1_5 : W5.cell? ⟨w.heap.size + 1, 0, none⟩ = some (.int .i64 g) := by rw [← e5]; exact alloc_cell _ c1_4
  have c2_5 : W5.cell? ⟨w.heap.size + 1 + 1, 0, none⟩ = some (.int .i64 len) := by rw [← e5]; exact alloc_cell _ c2_4
  have c3_5 : W5.cell? ⟨w.heap.size + 1 + 1 + 1, 0, none⟩ = some (.int .i64 f) := by rw [← e5]; exact alloc_cell _ c3_4
  have b5 : Below w.heap.size w W5 := by rw [← e5]; exact b4.alloc (by rw [s4]; omega) _
  obtain ⟨W6, e6⟩ : ∃ W, W5.alloc (.cells #[.int .i64 0] 3) = W := ⟨_, rfl⟩
  have s6 : W6.heap.size = w.heap.size + 1 + 1 + 1 + 1 + 1 + 1 := by rw [← e6]; simp [s5]
  have c5_6 : W6.cell? ⟨w.heap.size + 1 + 1 + 1 + 1 + 1, 0, none⟩ = some (.int .i64 0) := by rw [← e6]; exact cell_newb _ _ _ _ 0 _ s5.symm rfl
  have c0_6 : W6.cell? ⟨w.heap.size, 0, none⟩ = some (.pointer (some ⟨p, 0, none⟩)) := by rw [← e6]; exact alloc_cell _ c0_5
  have c1_6 : W6.cell? ⟨w.heap.size + 1, 0, none⟩ = some (.int .i64 g) := by rw [← e6]; exact alloc_cell _ c1_5
  have c2_6 : W6.cell? ⟨w.heap.size + 1 + 1, 0, none⟩ = some (.int .i64 len) := by rw [← e6]; exact alloc_cell _ c2_5
  have c3_6 : W6.cell? ⟨w.heap.size + 1 + 1 + 1, 0, none⟩ = some (.int .i64 f) := by rw [← e6]; exact alloc_cell _ c3_5
  have c4_6 : W6.cell? ⟨w.heap.size + 1 + 1 + 1 + 1, 0, none⟩ = some (.int .i64 t) := by rw [← e6]; exact alloc_cell _ c4_5
  have z5_6 : W6.frozen? ⟨w.heap.size + 1 + 1 + 1 + 1 + 1, 0, none⟩ = false := by rw [← e6]; exact froz_new _ _ _ _ s5.symm
  have b6 : Below w.heap.size w W6 := by rw [← e6]; exact b5.alloc (by rw [s5]; omega) _
  obtain ⟨W7, e7⟩ : ∃ W, W6.alloc (.cells #[.bool false] 4) = W := ⟨_, rfl⟩
  have s7 : W7.heap.size = w.heap.size + 1 + 1 + 1 + 1 + 1 + 1 + 1 := by rw [← e7]; simp [s6]
  have c6_7 : W7.cell? ⟨w.heap.size + 1 + 1 + 1 + 1 + 1 + 1, 0, none⟩ = some (.bool false) := by rw [← e7]; exact cell_newb _ _ _ _ 0 _ s6.symm rfl
  have c0_7 : W7.cell? ⟨w.heap.size, 0, none⟩ = some (.pointer (some ⟨p, 0, none⟩)) := by rw [← e7]; exact alloc_cell _ c0_6
  have c1_7 : W7.cell? ⟨w.heap.size + 1, 0, none⟩ = some (.int .i64 g) := by rw [← e7]; exact alloc_cell _ c1_6
  have c2_7 : W7.cell? ⟨w.heap.size + 1 + 1, 0, none⟩ = some (.int .i64 len) := by rw [← e7]; exact alloc_cell _ c2_6
  have c3_7 : W7.cell? ⟨w.heap.size + 1 + 1 + 1, 0, none⟩ = some (.int .i64 f) := by rw [← e7]; exact alloc_cell _ c3_6
  have c4_7 : W7.cell? ⟨w.heap.size + 1 + 1 + 1 + 1, 0, none⟩ = some (.int .i64 t) := by rw [← e7]; exact alloc_cell _ c4_6
  have c5_7 : W7.cell? ⟨w.heap.size + 1 + 1 + 1 + 1 + 1, 0, none⟩ = some (.int .i64 0) := by rw [← e7]; exact alloc_cell _ c5_6
  have z5_7 : W7.frozen? ⟨w.heap.size + 1 + 1 + 1 + 1 + 1, 0, none⟩ = false := by rw [← e7]; exact froz_old _ (by rw [s6]; omega) z5_6
  have z6_7 : W7.frozen? ⟨w.heap.size + 1 + 1 + 1 + 1 + 1 + 1, 0, none⟩ = false := by rw [← e7]; exact froz_new _ _ _ _ s6.symm
  have b7 : Below w.heap.size w W7 := by rw [← e7]; exact b6.alloc (by rw [s6]; omega) _
  obtain ⟨W8, e8⟩ : ∃ W, W7.alloc (.cells #[.int .i64 (t - len)] 3) = W := ⟨_, rfl⟩
  have s8 : W8.heap.size = w.heap.size + 1 + 1 + 1 + 1 + 1 + 1 + 1 + 1 := by rw [← e8]; simp [s7]
  have c7_8 : W8.cell? ⟨w.heap.size + 1 + 1 + 1 + 1 + 1 + 1 + 1, 0, none⟩ = some (.int .i64 (t - len)) := by rw [← e8]; exact cell_newb _ _ _ _ 0 _ s7.symm rfl
  have c0_8 : W8.cell? ⟨w.heap.size, 0, none⟩ = some (.pointer (some ⟨p, 0, none⟩)) := by rw [← e8]; exact alloc_cell _ c0_7
  have c1_8 : W8.cell? ⟨w.heap.size + 1, 0, none⟩ = some (.int .i64 g) := by rw [← e8]; exact alloc_cell _ c1_7
  have c2_8 : W8.cell? ⟨w.heap.size + 1 + 1, 0, none⟩ = some (.int .i64 len) := by rw [← e8]; exact alloc_cell _ c2_7
  have c3_8 : W8.cell? ⟨w.heap.size + 1 + 1 + 1, 0, none⟩ = some (.int .i64 f) := by rw [← e8]; exact alloc_cell _ c3_7
  have c4_8 : W8.cell? ⟨w.heap.size + 1 + 1 + 1 + 1, 0, none⟩ = some (.int .i64 t) := by rw [← e8]; exact alloc_cell _ c4_7
  have c5_8 : W8.cell? ⟨w.heap.size + 1 + 1 + 1 + 1 + 1, 0, none⟩ = some (.int .i64 0) := by rw [← e8]; exact alloc_cell _ c5_7
  have c6_8 : W8.cell? ⟨w.heap.size + 1 + 1 + 1 + 1 + 1 + 1, 0, none⟩ = some (.bool false) := by rw [← e8]; exact alloc_cell _ c6_7
  have z5 : W8.frozen? ⟨w.heap.size + 1 + 1 + 1 + 1 + 1, 0, none⟩ = false := by rw [← e8]; exact froz_old _ (by rw [s7]; omega) z5_7
  have z6 : W8.frozen? ⟨w.heap.size + 1 + 1 + 1 + 1 + 1 + 1, 0, none⟩ = false := by rw [← e8]; exact froz_old _ (by rw [s7]; omega) z6_7
  have b8 : Below w.heap.size w W8 := by rw [← e8]; exact b7.alloc (by rw [s7]; omega) _
  have hb8 := b8
  have hown8 : W8.ownsRow (w.heap.size + 1 + 1 + 1 + 1 + 1 + 1 + 1) 3 1 (.slice (some ⟨w.heap.size + 1 + 1 + 1 + 1 + 1 + 1 + 1, 0, none⟩) 1 1) 1 [.int .i64 (t - len)] := by
    have := World.ownsRow_lit (size := 1) (e := 3) (base := w.heap.size + 1 + 1 + 1 + 1 + 1 + 1 + 1) W7 #[.int .i64 (t - len)] 1 (by rw [s7]; exact Nat.le_refl _) (by unfold maxLen; omega) rfl
    rw [s7, e8] at this
    exact this
  have hc8 : W8.cell? ⟨p, 0, none⟩ = some (.slice a l.length c) := (hb8.cell (p := ⟨p, 0, none⟩) (block_lt (a := ⟨p, 0, none⟩) hc)).trans hc
  have HQ := Lib.hid (hq0.keep hb8)
  have HH := Lib.hid (h.keep (Fr.of_below (S := fun _ => False) hb8) (by simp))
  have HZ := Lib.hid (And.intro z5 z6)
  have HC := Lib.hid (And.intro c5_8 c6_8)
  have HB := Lib.hid (B7.mk (g := g) (len := len) (f := f) (t := t) c0_8 c1_8 c2_8 c3_8 c4_8)
  have HO := Lib.hid hown8
  have HL := Lib.hid hl
  have HEq : Hid (∀ x ∈ srtP len t l, okW g len f t l x = okP g len f t l x) := fun x hx => okW_eq hlen hf hft ht hl x hx
  have HFl : Hid (∀ k, F k → k < w.heap.size) := fun k hk => (h.flt k hk).1
  have HB8 := Lib.hid hb8
  have S8 := s8
  clear c0_1 c0_2 c1_2 c0_3 c1_3 c2_3 c0_4 c1_4 c2_4 c3_4 c0_5 c1_5 c2_5 c3_5 c4_5 c0_6 c1_6 c2_6 c3_6 c4_6 c5_6 c0_7 c1_7 c3_7 c5_7 c6_7 c1_8 c2_8 c3_8 c4_8 c5_8 c6_8 c7_8 z5_6 z5_7 z6_7 z5 z6 hown8 hl hq0 ho hc h hb8 b1 b2 b3 b4 b5 b6 b7 b8
  gi_wp2
  clear e1 e2 e3 e4 e5 e6 e7 e8 hc8 c2_7 c4_7 c0_8 s1 s2 s3 s4 s5 s6 s7
  gi_loopw [12, 26] (fun sv si wr => ∃ k : Nat, k ≤ l.length ∧ si = .int .i64 k ∧ Hid (wr.ownsRow (w.heap.size + 1 + 1 + 1 + 1 + 1 + 1 + 1) 3 1 sv (k + 1) (((places len t l).take (k + 1)).map (Value.int .i64))) ∧ Hid (Below (w.heap.size + 1 + 1 + 1 + 1 + 1 + 1 + 1) W8 wr)) (fun _ si _ => l.length - (intOf si).toNat)
  case atStart => exact ⟨0, Nat.zero_le _, rfl, HO.out, Below.refl _ _⟩
  case round =>
    clear HO
    obtain ⟨k, hk, rfl, HR, HW⟩ := hrel
    by_cases hlt : k < l.length
    · obtain ⟨b, off, rfl, hbn, hcc⟩ := HQ.out.2 (by omega)
      have hfl := HL.out _ (List.getElem_mem (l := l) (n := k) hlt)
      have HT : Hid ((places len t l).take (k + 1 + 1) = (places len t l).take (k + 1) ++ [l[k].2.2.1 - len]) := by
        show _ = _
        rw [List.take_succ_eq_append_getElem (by simp [places]; omega)]
        simp [places]
      have hcell : ∀ o v, W8.cell? ⟨b, o, none⟩ = some v → wr.cell? ⟨b, o, none⟩ = some v := fun o v hv => (HW.out.cell (p := ⟨b, o, none⟩) (by show b < _; omega)).trans hv
      have hQ := hcc k hlt
      have d0 := hcell _ _ hQ.c0
      have d1 := hcell _ _ hQ.c1
      have d2 := hcell _ _ hQ.c2
      have d3 := hcell _ _ hQ.c3
      have dl : wr.cell? ⟨w.heap.size + 1 + 1, 0, none⟩ = some (.int .i64 len) := (HW.out.cell (p := ⟨w.heap.size + 1 + 1, 0, none⟩) (by show w.heap.size + 1 + 1 < _; omega)).trans HB.out.b2
      have hsz : w.heap.size + 1 + 1 + 1 + 1 + 1 + 1 + 1 ≤ wr.heap.size := by have := HW.out.size; omega
      generalize l[k] = y at *
      obtain ⟨y0, y1, y2, y3⟩ := y
      simp only at d0 d1 d2 d3 hfl
      have hw2 : IntKind.i64.wrap (y2 - len) = y2 - len := IntWalk.i64_in _ (by omega)
      have hkI : (k : Int) < (l.length : Int) := by omega
      have dl2 : (wr.alloc (.cells #[.int .i64 y0, .int .i64 y1, .int .i64 y2, .int .i64 y3] 59)).cell? ⟨w.heap.size + 1 + 1, 0, none⟩ = some (.int .i64 len) := by rw [World.cell?_alloc_lt _ _ _ (block_lt (a := ⟨w.heap.size + 1 + 1, 0, none⟩) dl)]; exact dl
      obtain ⟨av, cv, rfl⟩ := ownsRow_form HR.out
      have HR2 : Hid (((wr.alloc (.cells #[.int .i64 y0, .int .i64 y1, .int .i64 y2, .int .i64 y3] 59)).alloc (.cells #[.int .i64 (y2 - len)] 3)).ownsRow (w.heap.size + 1 + 1 + 1 + 1 + 1 + 1 + 1) 3 1 (.slice av (k + 1) cv) (k + 1) (((places len t l).take (k + 1)).map (Value.int .i64))) := (HR.out.alloc _).alloc _
      have HW2 : Hid (Below (w.heap.size + 1 + 1 + 1 + 1 + 1 + 1 + 1) W8 ((wr.alloc (.cells #[.int .i64 y0, .int .i64 y1, .int .i64 y2, .int .i64 y3] 59)).alloc (.cells #[.int .i64 (y2 - len)] 3))) := (HW.out.alloc hsz _).alloc (by simp; omega) _
      have Hsz := Lib.hid hsz
      clear hcc hQ hcell HR HW dl hsz
      gi_wp2_with (gi_at_builtin; refine wpListIn_append_own _ rfl _ _ 70 rfl (w.heap.size + 1 + 1 + 1 + 1 + 1 + 1 + 1) 3 i0 (.int .i64 0) 1 8 Try.underlying70 hi hz0 hz1 hz2 rfl (by decide) _ _ _ rfl HR2.out ⟨wr.heap.size + 1, 0, none⟩ 1 1 [.int .i64 (y2 - len)] rfl rfl (fun j u hu => (by rw [add_none, Nat.zero_add]; exact cell_newb _ _ _ _ j u (by simp) hu)) (by simp [Value.oneCell']) (by unfold maxLen; omega) (by omega) (by have := Hsz.out; simp; omega) ?_; intro v' w1 hown' hgrow _; obtain ⟨g', cap', rfl⟩ := ownsRow_succ hown'; have HR3 : Hid (w1.ownsRow (w.heap.size + 1 + 1 + 1 + 1 + 1 + 1 + 1) 3 1 (.slice (some ⟨g', 0, none⟩) (k + 1 + 1) cap') (k + 1 + 1) (((places len t l).take (k + 1 + 1)).map (Value.int .i64))) := (by rw [HT.out, List.map_append]; exact hown'); have HW3 : Hid (Below (w.heap.size + 1 + 1 + 1 + 1 + 1 + 1 + 1) W8 w1) := HW2.out.grown hgrow (by have := Hsz.out; simp; omega) (fun j e => ownsRow_block HR2.out j e); clear hown' hgrow)
      go_roundw
      case rel => exact ⟨k + 1, by omega, by go_num, HR3.out, HW3.out⟩
      case measure => simp [intOf]; omega
    · obtain rfl : k = l.length := by omega
      obtain ⟨av, cv, rfl⟩ := ownsRow_form HR.out
      have hzl : (places len t l).length = l.length + 1 := by simp [places]
      obtain ⟨gv, cap', hv, hgv, hgl, _, _, _⟩ := ownsRow_cells HR.out (by omega)
      simp only [Value.slice.injEq] at hv
      obtain ⟨rfl, _, rfl⟩ := hv
      have hsl : (srtP len t l).length = l.length + 1 := by unfold srtP; rw [List.length_mergeSort, hzl]
      have S : Hid (Calls Try.prog 66 #[.slice (some ⟨gv, 0, none⟩) (l.length + 1) cv] wr fun e w' => e = .returned (.tuple #[]) ∧ Hid (w'.ownsRow (w.heap.size + 1 + 1 + 1 + 1 + 1 + 1 + 1) 3 1 (.slice (some ⟨gv, 0, none⟩) (srtP len t l).length cv) (srtP len t l).length ((srtP len t l).map (Value.int .i64))) ∧ Hid (Below (w.heap.size + 1 + 1 + 1 + 1 + 1 + 1 + 1) W8 w')) := by
        have ho := HR.out
        rw [List.take_of_length_le (by omega), ← hzl] at ho
        have := sort_ownI _ gv cv _ wr ho (by omega) (by omega)
        rw [hzl] at this
        refine Calls.mono this ?_
        rintro e w' ⟨he, h1, h2⟩
        exact ⟨he, h1, HW.out.grown h2 (by have := HW.out.size; omega) (fun j e => by cases e; exact hgv)⟩
      have Hsl := Lib.hid hsl
      clear HR HW hzl hsl hgl hw1
      gi_wp2_with (refine ⟨trivial, ?_⟩; gi_at_call 66; refine (callsIn_wide.2 S.out).mono ?_; rintro e w9 ⟨rfl, HO9, HB9⟩)
      refine ⟨trivial, (backward_in Fence.wide 5 trivial rfl _ _ _ _).mono ?_⟩
      rintro e w' ⟨rfl, rfl⟩
      have h89 : w.heap.size + 1 + 1 + 1 + 1 + 1 + 1 + 1 + 1 ≤ w9.heap.size := by have := HB9.out.size; omega
      have hba : Below w9.heap.size w9 (w9.alloc (.cells #[.slice (some ⟨gv, 0, none⟩) (l.length + 1) cv] 70)) := (Below.refl _ _).alloc (Nat.le_refl _) _
      have hX := (isIn_of_own HO9.out rfl)
      rw [Hsl.out] at hX
      have hX2 := hX.keep hba
      have hcB := cell_newb w9 #[.slice (some ⟨gv, 0, none⟩) (l.length + 1) cv] 70 w9.heap.size 0 _ rfl rfl
      have hs10 : (w9.alloc (.cells #[.slice (some ⟨gv, 0, none⟩) (l.length + 1) cv] 70)).heap.size = w9.heap.size + 1 := by simp
      have hlo : w.heap.size + 1 + 1 + 1 + 1 + 1 + 1 + 1 ≤ w9.heap.size := by omega
      have HB10 : Hid (Below (w.heap.size + 1 + 1 + 1 + 1 + 1 + 1 + 1) W8 (w9.alloc (.cells #[.slice (some ⟨gv, 0, none⟩) (l.length + 1) cv] 70))) := HB9.out.alloc hlo _
      have HX2 := Lib.hid hX2
      have HcB := Lib.hid hcB
      have Hs10 := Lib.hid hs10
      clear hX hX2 hcB hba hs10 HO9 HB9 S
      gi_wp2
      generalize w9.alloc (.cells #[.slice (some ⟨gv, 0, none⟩) (l.length + 1) cv] 70) = W10 at *
      generalize w9.heap.size = Bs at *
      refine wpIn_rangeFunc_ownG rfl (by omega) (gf := 74) (lb := #[.pointer (some ⟨Bs, 0, none⟩)]) rfl trivial (enters_of Try.func74 (by kernel_rfl) rfl)
        (back_stops Fence.wide 5 trivial rfl (by omega) Bs W10.heap.size cv (some ⟨gv, 0, none⟩) (srtP len t l) (by have := Hsl.out; omega) W10 (by have := Hs10.out; omega) (by have := Hs10.out; omega) (Nat.le_refl _) (by rw [Hsl.out]; exact HcB.out) (by rw [Hsl.out]; have h := HX2.out; exact ⟨h.1, fun hn => by obtain ⟨b, off, e, hlt, hc⟩ := h.2 hn; exact ⟨b, off, e, by have := Hs10.out; omega, hc⟩⟩))
        belowK_t (belowK_b (Nat.le_refl _)) (Below.refl _ _) (fun _ => rfl)
        (fun pre W => (∀ x ∈ pre, okW g len f t l x.2 = false) ∧ Below W10.heap.size W10 W)
        (fun cd pre W => cd = .ret ∧ (∃ P, (pre.map (·.2)).find? (okW g len f t l) = some P ∧ W.cell? ⟨w.heap.size + 1 + 1 + 1 + 1 + 1, 0, none⟩ = some (.int .i64 P) ∧ W.cell? ⟨w.heap.size + 1 + 1 + 1 + 1 + 1 + 1, 0, none⟩ = some (.bool true)) ∧ Below w.heap.size w W)
        (OwnFrom.and (ownFrom_pure _ _) (ownFrom_below (Nat.le_refl _) (Nat.le_refl _)))
        (fun cd s A B row hs hg hr => ⟨hs.1, by obtain ⟨P, h1, h2, h3⟩ := hs.2.1; exact ⟨P, h1, cell_kept h2 hg (fun r e => (hr r e).2), cell_kept h3 hg (fun r e => (hr r e).2)⟩, hs.2.2.grown hg hs.2.2.size (fun k e => by have := (hr k e).1; have := HB10.out.size; omega)⟩)
        ⟨by simp, Below.refl _ _⟩
        ?a1 ?assign ?body ?done ?stop
      case assign =>
        intro l0 x W K hK
        have HK0 := Lib.hid hK
        clear hK
        unfold pv
        gi_wp2
        exact HK0.out
      case body =>
        rintro l0 pre ⟨x1, x2⟩ W ⟨hpre, hbW⟩ hlt
        have HPre := Lib.hid hpre
        have HbW := Lib.hid hbW
        have hW8 : Below (w.heap.size + 1 + 1 + 1 + 1 + 1 + 1 + 1) W8 W := HB10.out.trans (hbW.mono (by have := HB10.out.size; omega))
        have hcl : ∀ (o : Nat) (v : Value), o < w.heap.size + 1 + 1 + 1 + 1 + 1 + 1 + 1 → W8.cell? ⟨o, 0, none⟩ = some v → W.cell? ⟨o, 0, none⟩ = some v := fun o v ho hv => (hW8.cell (p := ⟨o, 0, none⟩) ho).trans hv
        have d0 := hcl _ _ (by omega) HB.out.b0
        have d1 := hcl _ _ (by omega) HB.out.b1
        have d2 := hcl _ _ (by omega) HB.out.b2
        have d3 := hcl _ _ (by omega) HB.out.b3
        have d4 := hcl _ _ (by omega) HB.out.b4
        have d5 := hcl _ _ (by omega) HC.out.1
        have d6 := hcl _ _ (by omega) HC.out.2
        have f5 : W.frozen? ⟨w.heap.size + 1 + 1 + 1 + 1 + 1, 0, none⟩ = false := (World.frozen?_of_block (w := W8) (hW8.block (w.heap.size + 1 + 1 + 1 + 1 + 1) (by omega))).trans HZ.out.1
        have f6 : W.frozen? ⟨w.heap.size + 1 + 1 + 1 + 1 + 1 + 1, 0, none⟩ = false := (World.frozen?_of_block (w := W8) (hW8.block (w.heap.size + 1 + 1 + 1 + 1 + 1 + 1) (by omega))).trans HZ.out.2
        have hHA : HA 59 B W p F l room := HH.out.keep (T := fun k => ¬ k < w.heap.size + 1 + 1 + 1 + 1 + 1 + 1 + 1) ⟨hW8.os, hW8.tape, hW8.output, hW8.size, fun k hk hs => hW8.block k (by simpa using hs)⟩ (fun k hk hn => hn (by have := HFl.out k hk; omega))
        obtain ⟨z, hz⟩ : ∃ z, IntKind.i64.wrap (x2 + len) = z := ⟨_, rfl⟩
        have HFR := Lib.hid (free_any hHA g x2 z)
        have HokW : Hid (okW g len f t l x2 = (decide (f ≤ x2) && (decide (z ≤ t) && !(l.any (hits g x2 z))))) := by show _ = _; unfold okW; rw [hz]
        have HI0 : Hid (∀ W', Below W10.heap.size W W' → okW g len f t l x2 = false → (∀ x ∈ pre ++ [(x1, x2)], okW g len f t l x.2 = false) ∧ Below W10.heap.size W10 W') := fun W' hb hn => ⟨fun x hx => by
          rcases List.mem_append.1 hx with hx | hx
          · exact HPre.out x hx
          · simp only [List.mem_singleton] at hx; subst hx; exact hn, HbW.out.trans hb⟩
        have HWs : Hid (W10.heap.size ≤ W.heap.size) := hbW.size
        have HW8s := Lib.hid hW8
        have Hlow : Hid (w.heap.size + 1 + 1 + 1 + 1 + 1 + 1 + 1 ≤ W10.heap.size) := by have := HB10.out.size; show _ ≤ _; omega
        clear hpre hbW hlt hcl hHA hW8
        by_cases cc1 : f ≤ x2
        · by_cases cc2 : z ≤ t
          · cases hany : l.any (hits g x2 z)
            · have hok : okW g len f t l x2 = true := by rw [HokW.out, hany]; simp [cc1, cc2]
              have Hok := Lib.hid hok
              have HFd : Hid (((pre ++ [(x1, x2)]).map (·.2)).find? (okW g len f t l) = some x2) := by
                show _ = _
                rw [List.map_append, List.find?_append]
                have : (pre.map (·.2)).find? (okW g len f t l) = none := by
                  rw [List.find?_eq_none]
                  intro y hy
                  obtain ⟨x, hx, rfl⟩ := List.mem_map.1 hy
                  rw [HPre.out x hx]; simp
                rw [this]
                simp [hok]
              rw [hany] at HFR
              clear hany hok
              gi_wp2_with (refine ⟨trivial, ?_⟩; gi_at_call 68; refine (CallsIn.inRound l0 (callsIn_wide.2 HFR.out)).mono ?_; rintro e w5 ⟨rfl, hb5⟩; have e5 := (hb5.cell (p := ⟨w.heap.size + 1 + 1 + 1 + 1 + 1, 0, none⟩) (block_lt (a := ⟨w.heap.size + 1 + 1 + 1 + 1 + 1, 0, none⟩) d5)).trans d5; have e6 := (hb5.cell (p := ⟨w.heap.size + 1 + 1 + 1 + 1 + 1 + 1, 0, none⟩) (block_lt (a := ⟨w.heap.size + 1 + 1 + 1 + 1 + 1 + 1, 0, none⟩) d6)).trans d6; have g5 := (World.frozen?_of_block (w := W) (hb5.block (w.heap.size + 1 + 1 + 1 + 1 + 1) (block_lt (a := ⟨w.heap.size + 1 + 1 + 1 + 1 + 1, 0, none⟩) d5))).trans f5; have g6 := (World.frozen?_of_block (w := W) (hb5.block (w.heap.size + 1 + 1 + 1 + 1 + 1 + 1) (block_lt (a := ⟨w.heap.size + 1 + 1 + 1 + 1 + 1 + 1, 0, none⟩) d6))).trans f6; have Hb5 := Lib.hid hb5; clear hb5)
              have hkf : KeepsFrom W10.heap.size W w5 := ⟨Hb5.out.size, fun k o _ hk _ => (Hb5.out.block k (Array.getElem?_eq_some_iff.1 hk).1).trans hk⟩
              have hl0 := Hlow.out
              refine ⟨?_, rfl, ⟨x2, HFd.out, ?_, ?_⟩, ?_⟩
              · exact hkf.trans ((KeepsFrom.of_grownBy (grownBy_setCell' w5 (w.heap.size + 1 + 1 + 1 + 1 + 1) _) (fun j e => by cases e; omega)).trans (KeepsFrom.of_grownBy (grownBy_setCell' _ (w.heap.size + 1 + 1 + 1 + 1 + 1 + 1) _) (fun j e => by cases e; omega)))
              · rw [World.cell?_setCell_other _ _ _ _ (addr_ne' (by omega))]
                exact World.cell?_setCell_same _ _ _ e5
              · exact World.cell?_setCell_same _ _ _ (show World.cell? _ _ = some (.bool false) from by rw [World.cell?_setCell_other _ _ _ _ (addr_ne' (by omega))]; exact e6)
              · exact ((HB8.out.trans (HW8s.out.mono (by omega))).trans (Hb5.out.mono (by have := HWs.out; omega))).setCell (p := ⟨w.heap.size + 1 + 1 + 1 + 1 + 1, 0, none⟩) (by show w.heap.size ≤ w.heap.size + 1 + 1 + 1 + 1 + 1; omega) _ |>.setCell (p := ⟨w.heap.size + 1 + 1 + 1 + 1 + 1 + 1, 0, none⟩) (by show w.heap.size ≤ w.heap.size + 1 + 1 + 1 + 1 + 1 + 1; omega) _
            · have hn : okW g len f t l x2 = false := by rw [HokW.out, hany]; simp
              have Hn := Lib.hid hn
              rw [hany] at HFR
              clear hany hn
              gi_wp2_with (refine ⟨trivial, ?_⟩; gi_at_call 68; refine (CallsIn.inRound l0 (callsIn_wide.2 HFR.out)).mono ?_; rintro e w5 ⟨rfl, hb5⟩)
              have hs := hb5.size
              have hws := HWs.out
              exact ⟨⟨hb5.size, fun k o _ hk _ => (hb5.block k (Array.getElem?_eq_some_iff.1 hk).1).trans hk⟩, hb5.mono hws, HI0.out _ (hb5.mono hws) Hn.out⟩
          · have hn : okW g len f t l x2 = false := by rw [HokW.out, decide_eq_false cc2]; simp
            have Hn := Lib.hid hn
            clear hn
            gi_wp2
            refine ⟨trivial, ?_⟩
            gi_wp2
            exact ⟨KeepsFrom.refl _ _, Below.refl _ _, HI0.out _ (Below.refl _ _) Hn.out⟩
        · have hn : okW g len f t l x2 = false := by rw [HokW.out, decide_eq_false cc1]; simp
          have Hn := Lib.hid hn
          clear hn
          gi_wp2
          refine ⟨trivial, ?_⟩
          gi_wp2
          exact ⟨KeepsFrom.refl _ _, Below.refl _ _, HI0.out _ (Below.refl _ _) Hn.out⟩
      case done =>
        rintro D ys W hD rfl ⟨hpre, hbW⟩ hK
        have hW8 : Below (w.heap.size + 1 + 1 + 1 + 1 + 1 + 1 + 1) W8 W := HB10.out.trans (hbW.mono (by have := HB10.out.size; omega))
        have d5 : W.cell? ⟨w.heap.size + 1 + 1 + 1 + 1 + 1, 0, none⟩ = some (.int .i64 0) := (hW8.cell (p := ⟨w.heap.size + 1 + 1 + 1 + 1 + 1, 0, none⟩) (by show w.heap.size + 1 + 1 + 1 + 1 + 1 < _; omega)).trans HC.out.1
        have d6 : W.cell? ⟨w.heap.size + 1 + 1 + 1 + 1 + 1 + 1, 0, none⟩ = some (.bool false) := (hW8.cell (p := ⟨w.heap.size + 1 + 1 + 1 + 1 + 1 + 1, 0, none⟩) (by show w.heap.size + 1 + 1 + 1 + 1 + 1 + 1 < _; omega)).trans HC.out.2
        have f5 : W.frozen? ⟨w.heap.size + 1 + 1 + 1 + 1 + 1, 0, none⟩ = false := (World.frozen?_of_block (w := W8) (hW8.block (w.heap.size + 1 + 1 + 1 + 1 + 1) (by omega))).trans HZ.out.1
        have f6 : W.frozen? ⟨w.heap.size + 1 + 1 + 1 + 1 + 1 + 1, 0, none⟩ = false := (World.frozen?_of_block (w := W8) (hW8.block (w.heap.size + 1 + 1 + 1 + 1 + 1 + 1) (by omega))).trans HZ.out.2
        have HM : Hid (latM g len f t l = (0, false)) := by
          show _ = _
          unfold latM
          have e : (srtP len t l).reverse.find? (okP g len f t l) = none := by
            rw [List.find?_eq_none]
            intro y hy
            rw [← back_snd] at hy
            obtain ⟨x, hx, rfl⟩ := List.mem_map.1 hy
            rw [← HEq.out _ (by rw [← List.mem_reverse, ← back_snd]; exact hy), hpre x hx]; simp
          rw [e]
        have Hlow : Hid (w.heap.size + 1 + 1 + 1 + 1 + 1 + 1 + 1 ≤ W10.heap.size) := by have := HB10.out.size; show _ ≤ _; omega
        have HbW := Lib.hid hbW
        have HW8s := Lib.hid hW8
        have hk1 := (KeepsOthers.setCell W ⟨w.heap.size + 1 + 1 + 1 + 1 + 1, 0, none⟩ (.int .i64 0)).same D _ hK rfl
        have hk2 := (KeepsOthers.setCell (W.setCell ⟨w.heap.size + 1 + 1 + 1 + 1 + 1, 0, none⟩ (.int .i64 0)) ⟨w.heap.size + 1 + 1 + 1 + 1 + 1 + 1, 0, none⟩ (.bool false)).same D _ hk1 rfl
        have HK2 := Lib.hid hk2
        clear hpre hbW hW8 hK hk1 hk2
        gi_wp2
        refine ⟨by simp, .inl ⟨_, _, rfl, run_takeDeferred HK2.out, ?_⟩⟩
        have v5 : ((W.setCell ⟨w.heap.size + 1 + 1 + 1 + 1 + 1, 0, none⟩ (.int .i64 0)).setCell ⟨w.heap.size + 1 + 1 + 1 + 1 + 1 + 1, 0, none⟩ (.bool false)).cell? ⟨w.heap.size + 1 + 1 + 1 + 1 + 1, 0, none⟩ = some (.int .i64 0) := by
          rw [World.cell?_setCell_other _ _ _ _ (addr_ne' (by omega))]
          exact World.cell?_setCell_same _ _ _ d5
        have v6 : ((W.setCell ⟨w.heap.size + 1 + 1 + 1 + 1 + 1, 0, none⟩ (.int .i64 0)).setCell ⟨w.heap.size + 1 + 1 + 1 + 1 + 1 + 1, 0, none⟩ (.bool false)).cell? ⟨w.heap.size + 1 + 1 + 1 + 1 + 1 + 1, 0, none⟩ = some (.bool false) :=
          World.cell?_setCell_same _ _ _ (show World.cell? _ _ = some (.bool false) from by rw [World.cell?_setCell_other _ _ _ _ (addr_ne' (by omega))]; exact d6)
        have hbf : Below w.heap.size w ((W.setCell ⟨w.heap.size + 1 + 1 + 1 + 1 + 1, 0, none⟩ (.int .i64 0)).setCell ⟨w.heap.size + 1 + 1 + 1 + 1 + 1 + 1, 0, none⟩ (.bool false)) :=
          (((HB8.out.trans (HW8s.out.mono (by omega)))).setCell (p := ⟨w.heap.size + 1 + 1 + 1 + 1 + 1, 0, none⟩) (by show w.heap.size ≤ w.heap.size + 1 + 1 + 1 + 1 + 1; omega) _).setCell (p := ⟨w.heap.size + 1 + 1 + 1 + 1 + 1 + 1, 0, none⟩) (by show w.heap.size ≤ w.heap.size + 1 + 1 + 1 + 1 + 1 + 1; omega) _
        have y5 := cell_kept v5 (grownBy_putObj' _ D (.deferred none)) (fun r e => by cases e; exact ⟨_, HK2.out, rfl⟩)
        have y6 := cell_kept v6 (grownBy_putObj' _ D (.deferred none)) (fun r e => by cases e; exact ⟨_, HK2.out, rfl⟩)
        refine ⟨.tuple #[.int .i64 0, .bool false], ?_, by rw [HM.out], hbf.trans (belowK_b (w := w) (Nat.le_refl _) _ D _ _ (by have := Hlow.out; omega) HK2.out rfl rfl)⟩
        simp [results, Try.f51, go_sem, y5, y6]
      case stop =>
        rintro D cd pre W hD hpr ⟨rfl, ⟨P, hfind, hc5, hc6⟩, hb⟩ hK
        have HM : Hid (latM g len f t l = (P, true)) := by
          show _ = _
          unfold latM
          have e : (srtP len t l).reverse.find? (okP g len f t l) = some P := by
            rw [find_congr (srtP len t l).reverse (okP g len f t l) (okW g len f t l) (fun x hx => (HEq.out x (List.mem_reverse.1 hx)).symm), ← back_snd]
            obtain ⟨rest, hrest⟩ := hpr
            rw [← hrest, List.map_append, List.find?_append, hfind]
            rfl
          rw [e]
        have Hlow : Hid (w.heap.size + 1 + 1 + 1 + 1 + 1 + 1 + 1 ≤ W10.heap.size) := by have := HB10.out.size; show _ ≤ _; omega
        have Hb := Lib.hid hb
        have HK2 := Lib.hid hK
        clear hfind hb hK
        gi_wp2
        refine ⟨by simp, .inl ⟨_, _, rfl, run_takeDeferred HK2.out, ?_⟩⟩
        have y5 := cell_kept hc5 (grownBy_putObj' _ D (.deferred none)) (fun r e => by cases e; exact ⟨_, HK2.out, rfl⟩)
        have y6 := cell_kept hc6 (grownBy_putObj' _ D (.deferred none)) (fun r e => by cases e; exact ⟨_, HK2.out, rfl⟩)
        refine ⟨.tuple #[.int .i64 P, .bool true], ?_, by rw [HM.out], Hb.out.trans (belowK_b (w := w) (Nat.le_refl _) _ D _ _ (by have := Hlow.out; omega) HK2.out rfl rfl)⟩
        simp [results, Try.f51, go_sem, y5, y6]
end Go.Proofs.Ytaogdgbijjjpjaa
