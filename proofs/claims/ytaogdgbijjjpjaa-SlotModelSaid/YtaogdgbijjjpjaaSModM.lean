/- SlotModel: the model's list beside a table; what the search finds. -/
import Derived.Test.YtaogdgbijjjpjaaSPut
import Derived.Test.YtaogdgbijjjpjaaSLP
import Derived.Test.YtaogdgbijjjpjaaHModM
namespace Go.Proofs.Ytaogdgbijjjpjaa
open Go.RowKit
set_option linter.unusedVariables false

theorem Sl.of_ownS {w w' : World} {F : Nat → Prop} {v : Value} {m : List Q} {n : Nat} (hn : n = m.length) (h : w'.ownsRow w.heap.size 59 4 v n (m.flatMap qc)) (hF : ∀ k, F k → k < w.heap.size) : Sl w' F v m := by
  subst hn
  obtain ⟨a, c, rfl⟩ := ownsRow_form h
  refine ⟨a, c, rfl, qs_of_own h rfl, ?_, fun b off e => ?_⟩
  · rcases h.2 with ⟨hv, h0⟩ | ⟨g, cap, cur, hv, hb, hh, hc, hmx, _⟩
    · simp at hv; exact .inl ⟨hv.1, by rw [hv.2.1]; rfl, hv.2.2⟩
    · simp at hv
      obtain ⟨rfl, rfl⟩ := hv
      exact .inr ⟨g, 0, rfl, hc, by unfold maxLen at hmx; omega⟩
  · subst e
    exact ⟨ownsRow_lt h b rfl, fun hk => by have := ownsRow_block h b rfl; have := hF b hk; omega⟩

/-- A table made since w0, beside the model's list: the same slots, in order. -/
structure SX (w0 w : World) (p room : Nat) (F : Nat → Prop) (L : List Q) (v : Value) (m : List Q) : Prop where
  a : SO w0 w p room F L
  s : Sl w F v m
  pm : m.Perm L
  sr : SrtS m
section
variable {w0 w w' : World} {p room : Nat} {F : Nat → Prop} {L L' m m' : List Q} {v : Value}
theorem SX.bel (h : SX w0 w p room F L v m) : Below w0.heap.size w0 w := h.a.bel
theorem SX.below (h : SX w0 w p room F L v m) (hb : Below w.heap.size w w') : SX w0 w' p room F L v m := ⟨h.a.below hb, h.s.below hb, h.pm, h.sr⟩
theorem SX.nil (h : SO w0 w p room F []) : SX w0 w p room F [] (.slice none 0 0) [] := ⟨h, Sl.nil _ _, List.Perm.refl _, List.Pairwise.nil⟩
theorem SX.reserve {id g len f t x y : Int} (h : SX w0 w p room F L v m) (hE : resM room L id g len f t = (x, y, L')) :
    Calls Try.prog 33 #[.pointer (some ⟨p, 0, none⟩), .int .i64 id, .int .i64 g, .int .i64 len, .int .i64 f, .int .i64 t] w fun e w' => e = .returned (.tuple #[.int .i64 x, .int .i64 y]) ∧ ∃ F', SO w0 w' p room F' L' ∧ Sl w' F' v m ∧ Fr F w w' :=
  (h.a.reserve hE).mono fun _ _ ⟨he, F', hS, hF, hf⟩ => ⟨he, F', hS, h.s.turn hF hf, hf⟩
theorem SX.free (h : SX w0 w p room F L v m) (id : Int) :
    Calls Try.prog 32 #[.pointer (some ⟨p, 0, none⟩), .int .i64 id] w fun e w' => e = .returned (.int .i64 (if (L.any fun x => x.1 == id) = true then 0 else 4)) ∧ SO w0 w' p room F (L.filter fun x => !(x.1 == id)) ∧ Sl w' F v m ∧ Fr F w w' :=
  (h.a.free id).mono fun _ _ ⟨he, hS, hf⟩ => ⟨he, hS, h.s.turn (fun _ h => .inl h) hf, hf⟩
theorem SX.all (h : SX w0 w p room F L v m) :
    Calls Try.prog 37 #[.pointer (some ⟨p, 0, none⟩)] w fun e w' => ∃ (a : Option Addr) (c : Nat), e = .returned (.slice a m.length c) ∧ QsIn w'.heap.size w' a m.length m ∧ SX w0 w' p room F L v m :=
  h.a.all.mono fun _ _ ⟨a, c, l', he, hp, hs, ho, hb⟩ => by
    have e := h.a.bd.uniq hp hs h.pm h.sr
    subst e
    exact ⟨a, c, he, qs_of_own ho rfl, h.below hb⟩
theorem SX.len (h : SX w0 w p room F L v m) : m.length = L.length ∧ m.length ≤ 256 := ⟨h.pm.length_eq, by rw [h.pm.length_eq]; exact Nat.le_trans h.a.len h.a.rm⟩
end
theorem put_sl {w : World} {F : Nat → Prop} {a : Option Addr} {n c : Nat} {m : List Q} {d0 d1 d2 d3 : Int} (h : Sl w F (.slice a n c) m) (hn : n ≤ 1024) (hF : ∀ k, F k → k < w.heap.size) :
    Calls Try.prog 35 #[.slice a n c, .agg #[.int .i64 d0, .int .i64 d1, .int .i64 d2, .int .i64 d3]] w fun e w' => ∃ v, e = .returned v ∧ Sl w' F v (insS (d0, d1, d2, d3) m) ∧ Below w.heap.size w w' := by
  obtain ⟨a2, c2, e, hQ, hH, _⟩ := h
  simp only [Value.slice.injEq] at e
  obtain ⟨rfl, rfl, rfl⟩ := e
  refine (putS_any a m.length c m d0 d1 d2 d3 w hQ hH hn).mono ?_
  rintro e w' ⟨v, rfl, ho, hb⟩
  exact ⟨v, rfl, Sl.of_ownS (by rw [(insS_perm _ _).length_eq]; rfl) ho hF, hb⟩

/-! plain -/
theorem okP_ap {id g len f t x : Int} {m L : List Q} (hp : m.Perm L) (h1 : f ≤ x) (h2 : x + len ≤ t) : okP g len f t L x = apM m (id, g, x, x + len) := by
  rw [Bool.eq_iff_iff, okP_iff]
  constructor
  · intro h
    exact apM_of fun j hj => meets_no.2 (h.2.2 _ (hp.mem_iff.1 (List.getElem_mem hj)))
  · intro h
    exact ⟨h1, h2, fun s hs => meets_no.1 (apM_all h s (hp.mem_iff.2 hs))⟩
theorem okP_hi {g len f t x : Int} {L : List Q} (h : t < x + len) : okP g len f t L x = false := by
  cases e : okP g len f t L x
  · rfl
  · have := okP_iff.1 e; omega
theorem okP_lo {g len f t x : Int} {L : List Q} (h : x < f) : okP g len f t L x = false := by
  cases e : okP g len f t L x
  · rfl
  · have := okP_iff.1 e; omega
theorem lat_at {g len f t x : Int} {L : List Q} (hx : okP g len f t L x = true) (hy : ∀ y, x < y → okP g len f t L y = false) : latM g len f t L = (x, true) := by
  cases e : latM g len f t L with
  | mk p b =>
    cases b
    · rw [lat_no e x] at hx; cases hx
    · have h1 := lat_max e x hx
      have h2 := (latM_most e).2.1
      rcases Int.lt_or_eq_of_le h1 with h | h
      · rw [hy p h] at h2; cases h2
      · rw [h]
theorem lat_none {g len f t : Int} {L : List Q} (hy : ∀ y, okP g len f t L y = false) : latM g len f t L = (0, false) := latM_not fun q _ => hy q
theorem res_bad {room : Nat} {L L' : List Q} {id g len f t x y : Int} (h : resM room L id g len f t = (x, y, L')) (hb : len < 1 ∨ 1048576 < len ∨ f < 0 ∨ t < f ∨ 1099511627776 < t) : 0 = x ∧ 1 = y ∧ L = L' := by
  unfold resM at h; rw [if_pos hb] at h; simpa using h
theorem res_twice {room : Nat} {L L' : List Q} {id g len f t x y : Int} (h : resM room L id g len f t = (x, y, L')) (hb : ¬ (len < 1 ∨ 1048576 < len ∨ f < 0 ∨ t < f ∨ 1099511627776 < t)) (ha : (L.any fun x => x.1 == id) = true) : 0 = x ∧ 7 = y ∧ L = L' := by
  unfold resM at h; rw [if_neg hb, if_pos ha] at h; simpa using h
theorem res_full {room : Nat} {L L' : List Q} {id g len f t x y : Int} (h : resM room L id g len f t = (x, y, L')) (hb : ¬ (len < 1 ∨ 1048576 < len ∨ f < 0 ∨ t < f ∨ 1099511627776 < t)) (ha : (L.any fun x => x.1 == id) = false) (hr : L.length = room) : 0 = x ∧ 3 = y ∧ L = L' := by
  unfold resM at h; rw [if_neg hb, ha, if_neg (by simp), if_pos hr] at h; simpa using h
theorem res_at {room : Nat} {L L' : List Q} {id g len f t x y z : Int} (h : resM room L id g len f t = (x, y, L')) (hb : ¬ (len < 1 ∨ 1048576 < len ∨ f < 0 ∨ t < f ∨ 1099511627776 < t)) (ha : (L.any fun x => x.1 == id) = false) (hr : L.length ≠ room)
    (hx : okP g len f t L z = true) (hy : ∀ y, z < y → okP g len f t L y = false) : z = x ∧ 0 = y ∧ L ++ [(id, g, z, z + len)] = L' := by
  rw [resM_ok hb ha hr (lat_at hx hy)] at h; simpa using h
theorem res_no {room : Nat} {L L' : List Q} {id g len f t x y : Int} (h : resM room L id g len f t = (x, y, L')) (hb : ¬ (len < 1 ∨ 1048576 < len ∨ f < 0 ∨ t < f ∨ 1099511627776 < t)) (ha : (L.any fun x => x.1 == id) = false) (hr : L.length ≠ room)
    (hy : ∀ y, okP g len f t L y = false) : 0 = x ∧ 4 = y ∧ L = L' := by
  rw [resM_none hb ha hr (lat_none hy)] at h; simpa using h
/-- Where the id stands among the first q. -/
def Kx (m : List Q) (id : Int) (q : Nat) (kk : Int) : Prop := (kk = -1 ∧ ∀ j (h : j < m.length), j < q → m[j].1 ≠ id) ∨ ∃ r, ∃ h : r < m.length, r < q ∧ kk = (r : Int) ∧ m[r].1 = id
theorem Kx.zero (m : List Q) (id : Int) : Kx m id 0 (-1) := .inl ⟨rfl, fun j _ h => by omega⟩
theorem Kx.no {m : List Q} {id kk : Int} {q : Nat} (h : Kx m id q kk) (hq : q < m.length) (hn : m[q].1 ≠ id) : Kx m id (q + 1) kk := by
  rcases h with ⟨rfl, h⟩ | ⟨r, hr, hrq, rfl, e⟩
  · refine .inl ⟨rfl, fun j hj hjq => ?_⟩
    rcases Nat.lt_or_ge j q with h' | h'
    · exact h j hj h'
    · obtain rfl : j = q := by omega
      exact hn
  · exact .inr ⟨r, hr, by omega, rfl, e⟩
theorem Kx.yes {m : List Q} {id : Int} {q : Nat} (hq : q < m.length) (hn : m[q].1 = id) : Kx m id (q + 1) (q : Int) := .inr ⟨q, hq, by omega, rfl, hn⟩
theorem Kx.two {m L : List Q} {id kk : Int} (h : Kx m id m.length kk) (hp : m.Perm L) : (kk = -1 ∧ (L.any fun x => x.1 == id) = false) ∨ ∃ r, ∃ h : r < m.length, kk = (r : Int) ∧ m[r].1 = id ∧ (L.any fun x => x.1 == id) = true := by
  rcases h with ⟨rfl, h⟩ | ⟨r, hr, hrq, rfl, e⟩
  · refine .inl ⟨rfl, List.any_eq_false.2 fun x hx => ?_⟩
    obtain ⟨j, hj, rfl⟩ := List.mem_iff_getElem.1 (hp.mem_iff.2 hx)
    have := h j hj hj
    simpa using this
  · exact .inr ⟨r, hr, rfl, e, List.any_eq_true.2 ⟨m[r], hp.mem_iff.1 (List.getElem_mem hr), by simp [e]⟩⟩
theorem filter_atS {m : List Q} (hn : (m.map (·.1)).Nodup) (q : Nat) (h : q < m.length) : (m.filter fun d => !(d.1 == m[q].1)) = m.take q ++ m.drop (q + 1) := by
  induction m generalizing q with
  | nil => simp at h
  | cons x m ih =>
    simp only [List.map_cons, List.nodup_cons] at hn
    cases q with
    | zero =>
      simp only [List.getElem_cons_zero, List.take_zero, List.nil_append, List.drop_succ_cons, List.drop_zero]
      rw [List.filter_cons_of_neg (by simp), List.filter_eq_self.2]
      intro d hd
      have : d.1 ≠ x.1 := fun e => hn.1 (List.mem_map.2 ⟨d, hd, e⟩)
      simpa using this
    | succ q =>
      simp only [List.getElem_cons_succ, List.take_succ_cons, List.drop_succ_cons, List.cons_append]
      have hq : q < m.length := by simpa using h
      rw [List.filter_cons_of_pos, ih hn.2 q hq]
      have : x.1 ≠ m[q].1 := fun e => hn.1 (List.mem_map.2 ⟨m[q], List.getElem_mem hq, e.symm⟩)
      simpa using this
theorem filter_noneS {L : List Q} {id : Int} (h : (L.any fun x => x.1 == id) = false) : (L.filter fun x => !(x.1 == id)) = L :=
  List.filter_eq_self.2 fun x hx => by have := List.any_eq_false.1 h x hx; simpa using this
/-- Without the one at q: the same slots as the table's, in order. -/
theorem take_dropS {m L : List Q} {q : Nat} {id : Int} (hb : Bd L) (hp : m.Perm L) (hs : SrtS m) (h : q < m.length) (e : m[q].1 = id) :
    (m.take q ++ m.drop (q + 1)).Perm (L.filter fun x => !(x.1 == id)) ∧ SrtS (m.take q ++ m.drop (q + 1)) := by
  have hn : (m.map (·.1)).Nodup := (hp.map _).nodup_iff.2 hb.n
  have hf := filter_atS hn q h
  rw [e] at hf
  rw [← hf]
  exact ⟨hp.filter _, List.Pairwise.filter _ hs⟩
end Go.Proofs.Ytaogdgbijjjpjaa
