/- THE MODEL's LIST beside a wheel: a slice that no wheel writes; a boxed entry; the acts. -/
import Derived.Test.YthmbbbdnfgefbaaPutW
namespace Go.Proofs.Ythmbbbdnfgefbaa
open Go.RowKit
set_option linter.unusedVariables false

/-- A slice that reads as m, apart from the blocks F. -/
def Sl (w : World) (F : Nat → Prop) (v : Value) (m : List (Int × Int)) : Prop :=
  ∃ a c, v = .slice a m.length c ∧ PairsIn w.heap.size w a m.length m ∧ Has a m.length c ∧ ∀ b off, a = some ⟨b, off, none⟩ → b < w.heap.size ∧ ¬ F b

theorem PairsIn.turn {w w' : World} {a : Option Addr} {n : Nat} {xs : List (Int × Int)} {F : Nat → Prop} (h : PairsIn w.heap.size w a n xs) (hf : Fr F w w') (hF : ∀ b off, a = some ⟨b, off, none⟩ → ¬ F b) : PairsIn w'.heap.size w' a n xs :=
  ⟨h.1, fun hn => by
    obtain ⟨b, off, e, hlt, hc⟩ := h.2 hn
    exact ⟨b, off, e, Nat.lt_of_lt_of_le hlt hf.size, fun j hj => ⟨(hf.cell (p := ⟨b, off + j * 2, none⟩) hlt (hF b off e)).trans (hc j hj).1, (hf.cell (p := ⟨b, off + j * 2 + 1, none⟩) hlt (hF b off e)).trans (hc j hj).2⟩⟩⟩

theorem Sl.turn {w w' : World} {F F' : Nat → Prop} {v : Value} {m : List (Int × Int)} (h : Sl w F v m) (hF : ∀ k, F' k → F k ∨ w.heap.size ≤ k) (hf : Fr F w w') : Sl w' F' v m := by
  obtain ⟨a, c, h1, h2, h3, h4⟩ := h
  refine ⟨a, c, h1, h2.turn hf fun b off e => (h4 b off e).2, h3, fun b off e => ⟨Nat.lt_of_lt_of_le (h4 b off e).1 hf.size, fun hk => (hF b hk).elim (h4 b off e).2 fun hk => by have := (h4 b off e).1; omega⟩⟩
theorem Sl.below {w w' : World} {F : Nat → Prop} {v : Value} {m : List (Int × Int)} (h : Sl w F v m) (hb : Below w.heap.size w w') : Sl w' F v m :=
  h.turn (fun k hk => .inl hk) (Fr.of_below hb)
theorem Sl.nil (w : World) (F : Nat → Prop) : Sl w F (.slice none 0 0) [] := ⟨none, 0, rfl, ⟨rfl, fun h => by simp at h⟩, .inl ⟨rfl, rfl, rfl⟩, fun b off e => by simp at e⟩
/-- A row that was made since F's blocks. -/
theorem Sl.of_own {w w' : World} {F : Nat → Prop} {v : Value} {m : List (Int × Int)} {n : Nat} (hn : n = m.length) (h : w'.ownsRow w.heap.size 30 2 v n (m.flatMap dueC)) (hF : ∀ k, F k → k < w.heap.size) (hm : m.length ≤ 4096) : Sl w' F v m := by
  subst hn
  obtain ⟨a, c, rfl⟩ := ownsRow_form h
  refine ⟨a, c, rfl, dues_of_own h rfl, ?_, fun b off e => ?_⟩
  · rcases h.2 with ⟨hv, h0⟩ | ⟨g, cap, cur, hv, hb, hh, hc, hmx, _⟩
    · simp at hv; exact .inl ⟨hv.1, by rw [hv.2.1]; rfl, hv.2.2⟩
    · simp at hv
      obtain ⟨rfl, rfl⟩ := hv
      exact .inr ⟨g, 0, rfl, hc, by unfold maxLen at hmx; omega⟩
  · subst e
    exact ⟨ownsRow_lt h b rfl, fun hk => by have := ownsRow_block h b rfl; have := hF b hk; omega⟩

/-- A boxed entry. -/
structure Bx (w : World) (F : Nat → Prop) (b : Nat) (d : Int × Int) : Prop where
  lt : b < w.heap.size
  nf : ¬ F b
  c0 : w.cell? ⟨b, 0, none⟩ = some (.int .i64 d.1)
  c1 : w.cell? ⟨b, 1, none⟩ = some (.int .i64 d.2)
theorem Bx.turn {w w' : World} {F F' : Nat → Prop} {b : Nat} {d : Int × Int} (h : Bx w F b d) (hF : ∀ k, F' k → F k ∨ w.heap.size ≤ k) (hf : Fr F w w') : Bx w' F' b d :=
  ⟨Nat.lt_of_lt_of_le h.lt hf.size, fun hk => (hF b hk).elim h.nf fun hk => by have := h.lt; omega, (hf.cell (p := ⟨b, 0, none⟩) h.lt h.nf).trans h.c0, (hf.cell (p := ⟨b, 1, none⟩) h.lt h.nf).trans h.c1⟩
theorem Bx.below {w w' : World} {F : Nat → Prop} {b : Nat} {d : Int × Int} (h : Bx w F b d) (hb : Below w.heap.size w w') : Bx w' F b d := h.turn (fun k hk => .inl hk) (Fr.of_below hb)

/-- The acts that come in: what, a time, a number. -/
def ActsIn (B : Nat) (w : World) (a : Option Addr) (n : Nat) (xs : List (Int × Int × Int)) : Prop :=
  xs.length = n ∧ (0 < n → ∃ b off, a = some ⟨b, off, none⟩ ∧ b < B ∧ ∀ j (h : j < xs.length), w.cell? ⟨b, off + j * 3, none⟩ = some (.int .i64 xs[j].1) ∧ w.cell? ⟨b, off + j * 3 + 1, none⟩ = some (.int .i64 xs[j].2.1) ∧ w.cell? ⟨b, off + j * 3 + 2, none⟩ = some (.int .i64 xs[j].2.2))
theorem ActsIn.keep {w w' : World} {a : Option Addr} {n B : Nat} {xs : List (Int × Int × Int)} (h : ActsIn B w a n xs) (hb : Below B w w') : ActsIn B w' a n xs :=
  ⟨h.1, fun hn => by
    obtain ⟨b, off, e, hlt, hc⟩ := h.2 hn
    exact ⟨b, off, e, hlt, fun j hj => ⟨(hb.cell (p := ⟨b, off + j * 3, none⟩) hlt).trans (hc j hj).1, (hb.cell (p := ⟨b, off + j * 3 + 1, none⟩) hlt).trans (hc j hj).2.1, (hb.cell (p := ⟨b, off + j * 3 + 2, none⟩) hlt).trans (hc j hj).2.2⟩⟩⟩

/-- A wheel made since w0, beside a list of the statement's own. -/
structure WX (w0 w : World) (p room : Nat) (F : Nat → Prop) (now : Int) (m : List (Int × Int)) (v : Value) (mv : List (Int × Int)) : Prop where
  a : WH w0.heap.size w p F room now m
  s : Sl w F v mv
  bel : Below w0.heap.size w0 w

theorem WX.turn {w0 w w' : World} {p room : Nat} {F F' : Nat → Prop} {now now' : Int} {m m' mv : List (Int × Int)} {v : Value} (h : WX w0 w p room F now m v mv) (h' : WH w0.heap.size w' p F' room now' m')
    (hF : ∀ k, F' k → F k ∨ w.heap.size ≤ k) (hf : Fr F w w') : WX w0 w' p room F' now' m' v mv :=
  ⟨h', h.s.turn hF hf, fr_below h.bel hf fun k hk => (h.a.flt k hk).2⟩
theorem WX.below {w0 w w' : World} {p room : Nat} {F : Nat → Prop} {now : Int} {m mv : List (Int × Int)} {v : Value} (h : WX w0 w p room F now m v mv) (hb : Below w.heap.size w w') : WX w0 w' p room F now m v mv :=
  ⟨h.a.below hb, h.s.below hb, h.bel.trans (hb.mono h.bel.size)⟩

theorem WX.add {w0 w : World} {p room : Nat} {F : Nat → Prop} {now : Int} {m mv : List (Int × Int)} {v : Value} {t id r : Int} {m' : List (Int × Int)} (h : WX w0 w p room F now m v mv) (hE : addM now room m (t, id) = (r, m')) :
    Calls Try.prog 15 #[.pointer (some ⟨p, 0, none⟩), .agg #[.int .i64 t, .int .i64 id]] w fun e w' => e = .returned (.int .i64 r) ∧ ∃ F', WX w0 w' p room F' now m' v mv := by
  refine (add_m h.a h.bel.size (t, id)).mono ?_
  rintro e w' ⟨rfl, F', hW, hF, hf⟩
  rw [hE] at hW ⊢
  exact ⟨rfl, F', h.turn hW hF hf⟩
theorem WX.put {w0 w : World} {p room : Nat} {F : Nat → Prop} {now : Int} {m mv : List (Int × Int)} {a : Option Addr} {n c : Nat} {t id : Int} (h : WX w0 w p room F now m (.slice a n c) mv) (hn : n = mv.length) (hm : mv.length ≤ 1024) :
    Calls Try.prog 14 #[.slice a n c, .agg #[.int .i64 t, .int .i64 id]] w fun e w' => ∃ v', e = .returned v' ∧ WX w0 w' p room F now m v' (ins (t, id) mv) ∧ Below w.heap.size w w' := by
  subst hn
  obtain ⟨a2, c2, e, hP, hH, _⟩ := h.s
  simp only [Value.slice.injEq] at e
  obtain ⟨rfl, _, rfl⟩ := e
  refine (put_any a mv.length c mv t id w hP hH hm).mono ?_
  rintro e w' ⟨v', rfl, hown, hb⟩
  have hl : (ins (t, id) mv).length = mv.length + 1 := by rw [(ins_perm _ _).length_eq]; rfl
  exact ⟨v', rfl, ⟨h.a.below hb, Sl.of_own hl.symm hown (fun k hk => (h.a.flt k hk).1) (by omega), h.bel.trans (hb.mono h.bel.size)⟩, hb⟩
theorem WX.cancel {w0 w : World} {p room : Nat} {F : Nat → Prop} {now : Int} {m mv : List (Int × Int)} {v : Value} (h : WX w0 w p room F now m v mv) (id : Int) :
    Calls Try.prog 16 #[.pointer (some ⟨p, 0, none⟩), .int .i64 id] w fun e w' => e = .returned (.bool (m.any fun d => d.2 == id)) ∧ ∃ F', WX w0 w' p room F' now (m.filter fun d => !(d.2 == id)) v mv :=
  (cancel_m h.a h.bel.size id).mono fun _ _ ⟨he, F', hW, hF, hf⟩ => ⟨he, F', h.turn hW hF hf⟩
theorem WX.adv_bad {w0 w : World} {p room : Nat} {F : Nat → Prop} {now : Int} {m mv : List (Int × Int)} {v : Value} (h : WX w0 w p room F now m v mv) (t : Int) (hb : t < now ∨ 1099511627776 < t) :
    Calls Try.prog 17 #[.pointer (some ⟨p, 0, none⟩), .int .i64 t] w fun e w' => e = .returned (.tuple #[.slice none 0 0, .int .i64 1]) ∧ WX w0 w' p room F now m v mv ∧ Below w.heap.size w w' :=
  (advance_bad_m h.a t hb).mono fun _ _ ⟨he, hb⟩ => ⟨he, h.below hb, hb⟩
theorem WX.adv {w0 w : World} {p room : Nat} {F : Nat → Prop} {now : Int} {m mv : List (Int × Int)} {v : Value} (h : WX w0 w p room F now m v mv) (t : Int) (h1 : now ≤ t) (h2 : t ≤ 1099511627776) :
    Calls Try.prog 17 #[.pointer (some ⟨p, 0, none⟩), .int .i64 t] w fun e w' => ∃ (a : Option Addr) (c : Nat) (F' : Nat → Prop), e = .returned (.tuple #[.slice a (m.filter fun d => decide (d.1 ≤ t)).length c, .int .i64 0]) ∧
      PairsIn w'.heap.size w' a (m.filter fun d => decide (d.1 ≤ t)).length (m.filter fun d => decide (d.1 ≤ t)) ∧ WX w0 w' p room F' t (m.filter fun d => !decide (d.1 ≤ t)) v mv ∧ (∀ k, F' k → F k ∨ w.heap.size ≤ k) ∧ Fr F w w' := by
  refine (advance_m h.a h.bel.size t h1 h2).mono ?_
  rintro e w' ⟨v', F', rfl, hown, hW, hF, hv, hf, _⟩
  obtain ⟨a, c, rfl⟩ := ownsRow_form hown
  exact ⟨a, c, F', rfl, dues_of_own hown rfl, h.turn hW hF hf, hF, hf⟩
theorem WX.next {w0 w : World} {p room : Nat} {F : Nat → Prop} {now : Int} {m mv : List (Int × Int)} {v : Value} (h : WX w0 w p room F now m v mv) :
    Calls Try.prog 19 #[.pointer (some ⟨p, 0, none⟩)] w fun e w' => e = .returned (.tuple #[.int .i64 (nextM m).1, .bool (nextM m).2]) ∧ WX w0 w' p room F now m v mv :=
  (next_m h.a).mono fun _ _ ⟨he, hb⟩ => ⟨he, h.below hb⟩
theorem WX.now_ {w0 w : World} {p room : Nat} {F : Nat → Prop} {now : Int} {m mv : List (Int × Int)} {v : Value} (h : WX w0 w p room F now m v mv) :
    Calls Try.prog 20 #[.pointer (some ⟨p, 0, none⟩)] w fun e w' => e = .returned (.int .i64 now) ∧ w = w' := now_m h.a
theorem WX.len_ {w0 w : World} {p room : Nat} {F : Nat → Prop} {now : Int} {m mv : List (Int × Int)} {v : Value} (h : WX w0 w p room F now m v mv) :
    Calls Try.prog 21 #[.pointer (some ⟨p, 0, none⟩)] w fun e w' => e = .returned (.int .i64 m.length) ∧ w = w' := len_m h.a

theorem WX.own {w0 w w' : World} {p room : Nat} {F : Nat → Prop} {now : Int} {m mv L : List (Int × Int)} {v v' : Value} {n : Nat} (h : WX w0 w p room F now m v mv) (hb : Below w.heap.size w w') (hn : n = L.length) (ho : w'.ownsRow w.heap.size 30 2 v' n (L.flatMap dueC)) (hm : L.length ≤ 4096) :
    WX w0 w' p room F now m v' L := ⟨h.a.below hb, Sl.of_own hn ho (fun k hk => (h.a.flt k hk).1) hm, h.bel.trans (hb.mono h.bel.size)⟩

theorem PairsIn.take {B b off n : Nat} {w : World} {l : List (Int × Int)} (h : PairsIn B w (some ⟨b, off, none⟩) n l) (j : Nat) (hj : j ≤ n) : PairsIn B w (some ⟨b, off, none⟩) j (l.take j) := by
  have hl := h.1
  refine ⟨by rw [List.length_take]; omega, fun h0 => ?_⟩
  obtain ⟨b', off', e, hb, hc⟩ := h.2 (by omega)
  exact ⟨b', off', e, hb, fun q hq => by
    have hq' : q < l.length := by rw [List.length_take] at hq; omega
    rw [List.getElem_take]; exact hc q hq'⟩
theorem PairsIn.drop {B b off n : Nat} {w : World} {l : List (Int × Int)} (h : PairsIn B w (some ⟨b, off, none⟩) n l) (j : Nat) (hj : j ≤ n) : PairsIn B w (some ⟨b, off + j * 2, none⟩) (n - j) (l.drop j) := by
  have hl := h.1
  refine ⟨by rw [List.length_drop]; omega, fun h0 => ?_⟩
  obtain ⟨b', off', e, hb, hc⟩ := h.2 (by omega)
  simp only [Option.some.injEq, Addr.mk.injEq] at e
  obtain ⟨rfl, rfl, _⟩ := e
  exact ⟨b, off + j * 2, rfl, hb, fun q hq => by
    have hq' : j + q < l.length := by rw [List.length_drop] at hq; omega
    rw [List.getElem_drop]
    have := hc (j + q) hq'
    rw [show off + (j + q) * 2 = off + j * 2 + q * 2 by omega] at this
    exact this⟩
theorem Sl.drop {w : World} {F : Nat → Prop} {b off c : Nat} {m : List (Int × Int)} (h : Sl w F (.slice (some ⟨b, off, none⟩) m.length c) m) (j : Nat) (hj : j ≤ m.length) :
    Sl w F (.slice (if c = j then some ⟨b, off, none⟩ else some ⟨b, off + j * 2, none⟩) (m.length - j) (c - j)) (m.drop j) := by
  obtain ⟨a, c2, e, h2, h3, h4⟩ := h
  simp only [Value.slice.injEq] at e
  obtain ⟨rfl, _, rfl⟩ := e
  obtain ⟨h4a, h4b⟩ := h4 b off rfl
  have hc : m.length ≤ c ∧ c ≤ 9223372036854775807 := by
    rcases h3 with ⟨h3, _⟩ | ⟨_, _, _, h3⟩
    · simp at h3
    · exact h3
  by_cases hcj : c = j
  · rw [if_pos hcj]
    have hz : m.drop j = [] := List.drop_eq_nil_of_le (by omega)
    have hz2 : m.length - j = 0 := by omega
    rw [hz, hz2]
    refine ⟨some ⟨b, off, none⟩, c - j, rfl, ⟨rfl, fun h => by simp at h⟩, .inr ⟨b, off, rfl, by simp, by omega⟩, fun b' off' e => ?_⟩
    simp only [Option.some.injEq, Addr.mk.injEq] at e
    obtain ⟨rfl, _, _⟩ := e
    exact ⟨h4a, h4b⟩
  · rw [if_neg hcj]
    have hl : m.length - j = (m.drop j).length := by rw [List.length_drop]
    rw [hl]
    refine ⟨some ⟨b, off + j * 2, none⟩, c - j, rfl, ?_, .inr ⟨b, _, rfl, by rw [← hl]; omega, by omega⟩, fun b' off' e => ?_⟩
    · rw [← hl]; exact h2.drop j hj
    · simp only [Option.some.injEq, Addr.mk.injEq] at e
      obtain ⟨rfl, _, _⟩ := e
      exact ⟨h4a, h4b⟩

/-- The place of an id among the first j. -/
def KIdx (m : List (Int × Int)) (id : Int) (j : Nat) (k : Int) : Prop :=
  (k = -1 ∧ ∀ q (h : q < m.length), q < j → m[q].2 ≠ id) ∨ ∃ q : Nat, ∃ h : q < m.length, q < j ∧ k = (q : Int) ∧ m[q].2 = id
theorem KIdx.zero (m : List (Int × Int)) (id : Int) : KIdx m id 0 (-1) := .inl ⟨rfl, fun q h hq => by omega⟩
theorem KIdx.yes {m : List (Int × Int)} {id : Int} {j : Nat} {k : Int} (h : j < m.length) (e : m[j].2 = id) : KIdx m id (j + 1) (j : Int) := .inr ⟨j, h, by omega, rfl, e⟩
theorem KIdx.no {m : List (Int × Int)} {id : Int} {j : Nat} {k : Int} (hK : KIdx m id j k) (h : j < m.length) (e : m[j].2 ≠ id) : KIdx m id (j + 1) k := by
  rcases hK with ⟨h1, h2⟩ | ⟨q, hq, h1, h2, h3⟩
  · refine .inl ⟨h1, fun q hq hj => ?_⟩
    rcases Nat.lt_or_ge q j with hlt | hge
    · exact h2 q hq hlt
    · obtain rfl : q = j := by omega
      exact e
  · exact .inr ⟨q, hq, by omega, h2, h3⟩
theorem KIdx.out {m : List (Int × Int)} {id : Int} {k : Int} (hK : KIdx m id m.length k) : (k = -1 ∧ (m.any fun d => d.2 == id) = false) ∨ ∃ q : Nat, ∃ h : q < m.length, k = (q : Int) ∧ m[q].2 = id ∧ (m.any fun d => d.2 == id) = true := by
  rcases hK with ⟨h1, h2⟩ | ⟨q, hq, _, h2, h3⟩
  · refine .inl ⟨h1, List.any_eq_false.2 fun d hd => ?_⟩
    obtain ⟨q, hq, rfl⟩ := List.mem_iff_getElem.1 hd
    have := h2 q hq hq
    simpa using this
  · exact .inr ⟨q, hq, h2, h3, List.any_eq_true.2 ⟨_, List.getElem_mem hq, by simp [h3]⟩⟩

/-- Without the one at q. -/
theorem filter_one {m : List (Int × Int)} (hn : (m.map (·.2)).Nodup) (q : Nat) (h : q < m.length) : (m.filter fun d => !(d.2 == m[q].2)) = m.take q ++ m.drop (q + 1) := by
  induction m generalizing q with
  | nil => simp at h
  | cons x m ih =>
    simp only [List.map_cons, List.nodup_cons] at hn
    cases q with
    | zero =>
      simp only [List.getElem_cons_zero, List.take_zero, List.nil_append, List.drop_succ_cons, List.drop_zero]
      rw [List.filter_cons_of_neg (by simp), List.filter_eq_self.2]
      intro d hd
      have : d.2 ≠ x.2 := fun e => hn.1 (List.mem_map.2 ⟨d, hd, e⟩)
      simpa using this
    | succ q =>
      simp only [List.getElem_cons_succ, List.take_succ_cons, List.drop_succ_cons, List.cons_append]
      have hq : q < m.length := by simpa using h
      rw [List.filter_cons_of_pos, ih hn.2 q hq]
      have : x.2 ≠ m[q].2 := fun e => hn.1 (List.mem_map.2 ⟨m[q], List.getElem_mem hq, e.symm⟩)
      simpa using this

/-- Of an ordered list the due ones are its beginning. -/
theorem due_take {m : List (Int × Int)} (hs : Srt m) (t : Int) (n : Nat) (hn : n ≤ m.length) (h1 : ∀ j (h : j < m.length), j < n → m[j].1 ≤ t) (h2 : ∀ h : n < m.length, t < m[n].1) :
    (m.filter fun d => decide (d.1 ≤ t)) = m.take n ∧ (m.filter fun d => !decide (d.1 ≤ t)) = m.drop n := by
  induction m generalizing n with
  | nil => simp
  | cons x m ih =>
    obtain ⟨hx, hm⟩ := List.pairwise_cons.1 hs
    cases n with
    | zero =>
      have h0 : t < x.1 := h2 (by simp)
      have hall : ∀ d ∈ x :: m, t < d.1 := by
        intro d hd
        rcases List.mem_cons.1 hd with rfl | hd
        · exact h0
        · have := hx d hd; rw [ltD_iff] at this; omega
      refine ⟨?_, ?_⟩
      · rw [List.take_zero, List.filter_eq_nil_iff]
        intro d hd; have := hall d hd; simp; omega
      · rw [List.drop_zero, List.filter_eq_self]
        intro d hd; have := hall d hd; simp; omega
    | succ n =>
      obtain ⟨a, b⟩ := ih hm n (by simpa using hn) (fun j h hj => h1 (j + 1) (by simp; omega) (by omega)) (fun h => h2 (by simp; omega))
      have h0 : x.1 ≤ t := h1 0 (by simp) (by omega)
      rw [List.filter_cons_of_pos (by simpa using h0), List.filter_cons_of_neg (by simpa using h0), a, b]
      exact ⟨rfl, rfl⟩
end Go.Proofs.Ythmbbbdnfgefbaa
