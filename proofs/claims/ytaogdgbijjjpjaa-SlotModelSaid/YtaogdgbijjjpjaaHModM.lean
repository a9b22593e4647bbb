/- THE MODEL's LIST beside a heap: a slice that no heap writes; the acts. -/
import Derived.Test.YtaogdgbijjjpjaaWoutK
import Derived.Test.YtaogdgbijjjpjaaTwoH
namespace Go.Proofs.Ytaogdgbijjjpjaa
open Go.RowKit
set_option linter.unusedVariables false

/-- A slice that reads as m, apart from the blocks F. -/
def Sl (w : World) (F : Nat → Prop) (v : Value) (m : List Q) : Prop :=
  ∃ a c, v = .slice a m.length c ∧ QsIn w.heap.size w a m.length m ∧ Has a m.length c ∧ ∀ b off, a = some ⟨b, off, none⟩ → b < w.heap.size ∧ ¬ F b
theorem QsIn.turn {w w' : World} {a : Option Addr} {n : Nat} {xs : List Q} {F : Nat → Prop} (h : QsIn w.heap.size w a n xs) (hf : Fr F w w') (hF : ∀ b off, a = some ⟨b, off, none⟩ → ¬ F b) : QsIn w'.heap.size w' a n xs :=
  ⟨h.1, fun hn => by
    obtain ⟨b, off, e, hlt, hc⟩ := h.2 hn
    exact ⟨b, off, e, Nat.lt_of_lt_of_le hlt hf.size, fun j hj => (hc j hj).of_fr hf (hF b off e)⟩⟩
theorem Sl.turn {w w' : World} {F F' : Nat → Prop} {v : Value} {m : List Q} (h : Sl w F v m) (hF : ∀ k, F' k → F k ∨ w.heap.size ≤ k) (hf : Fr F w w') : Sl w' F' v m := by
  obtain ⟨a, c, h1, h2, h3, h4⟩ := h
  refine ⟨a, c, h1, h2.turn hf fun b off e => (h4 b off e).2, h3, fun b off e => ⟨Nat.lt_of_lt_of_le (h4 b off e).1 hf.size, fun hk => (hF b hk).elim (h4 b off e).2 fun hk => by have := (h4 b off e).1; omega⟩⟩
theorem Sl.below {w w' : World} {F : Nat → Prop} {v : Value} {m : List Q} (h : Sl w F v m) (hb : Below w.heap.size w w') : Sl w' F v m :=
  h.turn (fun k hk => .inl hk) (Fr.of_below hb)
theorem Sl.nil (w : World) (F : Nat → Prop) : Sl w F (.slice none 0 0) [] := ⟨none, 0, rfl, ⟨rfl, fun h => by simp at h⟩, .inl ⟨rfl, rfl, rfl⟩, fun b off e => by simp at e⟩
theorem Sl.of_own {w w' : World} {F : Nat → Prop} {v : Value} {m : List Q} {n : Nat} (hn : n = m.length) (h : w'.ownsRow w.heap.size 23 4 v n (m.flatMap qc)) (hF : ∀ k, F k → k < w.heap.size) : Sl w' F v m := by
  subst hn
  obtain ⟨a, c, rfl⟩ := ownsRow_form h
  refine ⟨a, c, rfl, qs_of_own h rfl, ?_, fun b off e => ?_⟩
  · rcases h.2 with ⟨hv, h0⟩ | ⟨g, cap, cur, hv, hb, hh, hc, hmx, _⟩
    · simp at hv; exact .inl ⟨hv.1, by rw [hv.2.1]; rfl, hv.2.2⟩
    · simp at hv
      obtain ⟨rfl, rfl⟩ := hv
      exact .inr ⟨g, 0, rfl, hc, by unfold maxLen at hmx; omega⟩
  · subst e
    exact ⟨ownsRow_lt h b rfl, fun hk => by have := ownsRow_block h b rfl; have := hF b hk; omega⟩

theorem QsIn.drop {B b off n : Nat} {w : World} {l : List Q} (h : QsIn B w (some ⟨b, off, none⟩) n l) (j : Nat) (hj : j ≤ n) : QsIn B w (some ⟨b, off + j * 4, none⟩) (n - j) (l.drop j) := by
  have hl := h.1
  refine ⟨by rw [List.length_drop]; omega, fun h0 => ?_⟩
  obtain ⟨b', off', e, hb, hc⟩ := h.2 (by omega)
  simp only [Option.some.injEq, Addr.mk.injEq] at e
  obtain ⟨rfl, rfl, _⟩ := e
  exact ⟨b, off + j * 4, rfl, hb, fun q hq => by
    have hq' : j + q < l.length := by rw [List.length_drop] at hq; omega
    rw [List.getElem_drop]
    have := hc (j + q) hq'
    rw [show off + (j + q) * 4 = off + j * 4 + q * 4 by omega] at this
    exact this⟩
theorem Sl.drop {w : World} {F : Nat → Prop} {b off c : Nat} {m : List Q} (h : Sl w F (.slice (some ⟨b, off, none⟩) m.length c) m) (j : Nat) (hj : j ≤ m.length) :
    Sl w F (.slice (if c = j then some ⟨b, off, none⟩ else some ⟨b, off + j * 4, none⟩) (m.length - j) (c - j)) (m.drop j) := by
  obtain ⟨a, c2, e, h2, h3, h4⟩ := h
  simp only [Value.slice.injEq] at e
  obtain ⟨rfl, _, rfl⟩ := e
  obtain ⟨h4a, h4b⟩ := h4 b off rfl
  have hc : m.length ≤ c ∧ c ≤ 9223372036854775807 := by
    rcases h3 with ⟨h3, _⟩ | ⟨_, _, _, h3⟩
    · simp at h3
    · exact h3
  by_cases hcj : c = j
  · rw [if_pos hcj]
    have hz : m.drop j = [] := List.drop_eq_nil_of_le (by omega)
    have hz2 : m.length - j = 0 := by omega
    rw [hz, hz2]
    refine ⟨some ⟨b, off, none⟩, c - j, rfl, ⟨rfl, fun h => by simp at h⟩, .inr ⟨b, off, rfl, by simp, by omega⟩, fun b' off' e => ?_⟩
    simp only [Option.some.injEq, Addr.mk.injEq] at e
    obtain ⟨rfl, _, _⟩ := e
    exact ⟨h4a, h4b⟩
  · rw [if_neg hcj]
    have hl : m.length - j = (m.drop j).length := by rw [List.length_drop]
    rw [hl]
    refine ⟨some ⟨b, off + j * 4, none⟩, c - j, rfl, ?_, .inr ⟨b, _, rfl, by rw [← hl]; omega, by omega⟩, fun b' off' e => ?_⟩
    · rw [← hl]; exact h2.drop j hj
    · simp only [Option.some.injEq, Addr.mk.injEq] at e
      obtain ⟨rfl, _, _⟩ := e
      exact ⟨h4a, h4b⟩

/-- The acts that come in: what, a key. -/
structure A5 (w : World) (b o : Nat) (x : Int × Q) : Prop where
  c0 : w.cell? ⟨b, o, none⟩ = some (.int .i64 x.1)
  c1 : w.cell? ⟨b, o + 1, none⟩ = some (.int .i64 x.2.1)
  c2 : w.cell? ⟨b, o + 2, none⟩ = some (.int .i64 x.2.2.1)
  c3 : w.cell? ⟨b, o + 3, none⟩ = some (.int .i64 x.2.2.2.1)
  c4 : w.cell? ⟨b, o + 4, none⟩ = some (.int .i64 x.2.2.2.2)
def AsIn (B : Nat) (w : World) (a : Option Addr) (n : Nat) (xs : List (Int × Q)) : Prop :=
  xs.length = n ∧ (0 < n → ∃ b off, a = some ⟨b, off, none⟩ ∧ b < B ∧ ∀ j (h : j < xs.length), A5 w b (off + j * 5) xs[j])
theorem AsIn.keep {w w' : World} {a : Option Addr} {n B : Nat} {xs : List (Int × Q)} (h : AsIn B w a n xs) (hb : Below B w w') : AsIn B w' a n xs :=
  ⟨h.1, fun hn => by
    obtain ⟨b, off, e, hlt, hc⟩ := h.2 hn
    exact ⟨b, off, e, hlt, fun j hj => ⟨(hb.cell (p := ⟨b, off + j * 5, none⟩) hlt).trans (hc j hj).c0, (hb.cell (p := ⟨b, off + j * 5 + 1, none⟩) hlt).trans (hc j hj).c1, (hb.cell (p := ⟨b, off + j * 5 + 2, none⟩) hlt).trans (hc j hj).c2, (hb.cell (p := ⟨b, off + j * 5 + 3, none⟩) hlt).trans (hc j hj).c3, (hb.cell (p := ⟨b, off + j * 5 + 4, none⟩) hlt).trans (hc j hj).c4⟩⟩⟩

/-- A heap made since w0, beside a list of the statement's own. -/
structure HX (w0 w : World) (p room : Nat) (F : Nat → Prop) (m : List Q) (v : Value) (mv : List Q) : Prop where
  a : HO w0 w p room F m
  s : Sl w F v mv
section
variable {w0 w w' : World} {p room : Nat} {F : Nat → Prop} {m m' mv : List Q} {v : Value}
theorem HX.bel (h : HX w0 w p room F m v mv) : Below w0.heap.size w0 w := h.a.bel
theorem HX.below (h : HX w0 w p room F m v mv) (hb : Below w.heap.size w w') : HX w0 w' p room F m v mv := ⟨h.a.below hb, h.s.below hb⟩
theorem HX.push {a b c d r : Int} (h : HX w0 w p room F m v mv) (hE : pushM room m (a, b, c, d) = (r, m')) :
    Calls Try.prog 18 #[.pointer (some ⟨p, 0, none⟩), .agg #[.int .i64 a, .int .i64 b, .int .i64 c, .int .i64 d]] w fun e w' => e = .returned (.int .i64 r) ∧ ∃ F', HX w0 w' p room F' m' v mv :=
  (h.a.push hE).mono fun _ _ ⟨he, F', hW, hF, hf⟩ => ⟨he, F', hW, h.s.turn hF hf⟩
theorem HX.pop (h : HX w0 w p room F m v mv) :
    Calls Try.prog 26 #[.pointer (some ⟨p, 0, none⟩)] w fun e w' => e = .returned (.tuple #[qv (peekM m).1, .bool (peekM m).2]) ∧ HX w0 w' p room F m.tail v mv :=
  h.a.pop.mono fun _ _ ⟨he, hW, hf⟩ => ⟨he, hW, h.s.turn (fun _ hk => .inl hk) hf⟩
theorem HX.change {a b c d : Int} {r : Bool} (h : HX w0 w p room F m v mv) (hr : (m.any fun x => x.2.2.2 == d) = r) (hE : chgM m (a, b, c, d) = m') :
    Calls Try.prog 21 #[.pointer (some ⟨p, 0, none⟩), .agg #[.int .i64 a, .int .i64 b, .int .i64 c, .int .i64 d]] w fun e w' => e = .returned (.bool r) ∧ HX w0 w' p room F m' v mv :=
  (h.a.change hr hE).mono fun _ _ ⟨he, hW, hf⟩ => ⟨he, hW, h.s.turn (fun _ hk => .inl hk) hf⟩
theorem HX.remove {d : Int} {r : Bool} (h : HX w0 w p room F m v mv) (hr : (m.any fun x => x.2.2.2 == d) = r) (hE : (m.filter fun x => !(x.2.2.2 == d)) = m') :
    Calls Try.prog 23 #[.pointer (some ⟨p, 0, none⟩), .int .i64 d] w fun e w' => e = .returned (.bool r) ∧ HX w0 w' p room F m' v mv :=
  (h.a.remove hr hE).mono fun _ _ ⟨he, hW, hf⟩ => ⟨he, hW, h.s.turn (fun _ hk => .inl hk) hf⟩
theorem HX.peek (h : HX w0 w p room F m v mv) :
    Calls Try.prog 28 #[.pointer (some ⟨p, 0, none⟩)] w fun e w' => e = .returned (.tuple #[qv (peekM m).1, .bool (peekM m).2]) ∧ HX w0 w' p room F m v mv :=
  (peek_m h.a.a).mono fun _ _ ⟨he, hb⟩ => ⟨he, h.below hb⟩
theorem HX.own {L : List Q} {v' : Value} {n : Nat} (h : HX w0 w p room F m v mv) (hb : Below w.heap.size w w') (hn : n = L.length) (ho : w'.ownsRow w.heap.size 23 4 v' n (L.flatMap qc)) : HX w0 w' p room F m v' L :=
  ⟨h.a.below hb, Sl.of_own hn ho fun k hk => (h.a.a.flt k hk).1⟩
theorem HX.put {a : Option Addr} {n c : Nat} {x0 x1 x2 x3 : Int} (h : HX w0 w p room F m (.slice a n c) mv) (hn : n = mv.length) (hm : mv.length ≤ 1024) :
    Calls Try.prog 25 #[.slice a n c, .agg #[.int .i64 x0, .int .i64 x1, .int .i64 x2, .int .i64 x3]] w fun e w' => ∃ v', e = .returned v' ∧ HX w0 w' p room F m v' (insK (x0, x1, x2, x3) mv) ∧ Below w.heap.size w w' := by
  subst hn
  obtain ⟨a2, c2, e, hP, hH, _⟩ := h.s
  simp only [Value.slice.injEq] at e
  obtain ⟨rfl, _, rfl⟩ := e
  refine (putK_any a mv.length c mv x0 x1 x2 x3 w hP hH hm).mono ?_
  rintro e w' ⟨v', rfl, hown, hb⟩
  have hl : (insK (x0, x1, x2, x3) mv).length = mv.length + 1 := by rw [(insK_perm _ _).length_eq]; rfl
  exact ⟨v', rfl, h.own hb hl.symm hown, hb⟩
theorem HX.without {a : Option Addr} {n c q : Nat} (h : HX w0 w p room F m (.slice a n c) mv) (hn : n = mv.length) (hm : mv.length ≤ 1024) (hq : q < mv.length) :
    Calls Try.prog 27 #[.slice a n c, .int .i64 q] w fun e w' => ∃ (a' : Option Addr) (c' : Nat), e = .returned (.slice a' (mv.length - 1) c') ∧ HX w0 w' p room F m (.slice a' (mv.length - 1) c') (mv.take q ++ mv.drop (q + 1)) ∧ Below w.heap.size w w' := by
  subst hn
  obtain ⟨a2, c2, e, hP, hH, _⟩ := h.s
  simp only [Value.slice.injEq] at e
  obtain ⟨rfl, _, rfl⟩ := e
  rcases hH with ⟨_, h0, _⟩ | ⟨b, off, rfl, hc, hc2⟩
  · omega
  refine (withoutK_any b off mv.length c q mv w hP hc hc2 hm hq).mono ?_
  rintro e w' ⟨v', rfl, hown, hb⟩
  obtain ⟨a', c', rfl⟩ := ownsRow_form hown
  exact ⟨a', c', rfl, h.own hb (by rw [List.length_append, List.length_take, List.length_drop]; omega) hown, hb⟩
theorem HX.find {a : Option Addr} {n c : Nat} (h : HX w0 w p room F m (.slice a n c) mv) (hn : n = mv.length) (hm : mv.length ≤ 1024) (id : Int) :
    Calls Try.prog 24 #[.slice a n c, .int .i64 id] w fun e w' => ∃ r : Int, e = .returned (.int .i64 r) ∧ Idx (fun x => x.2.2.2 == id) mv r ∧ HX w0 w' p room F m (.slice a n c) mv := by
  subst hn
  obtain ⟨a2, c2, e, hP, hH, _⟩ := h.s
  simp only [Value.slice.injEq] at e
  obtain ⟨rfl, _, rfl⟩ := e
  refine (find_any w.heap.size a mv.length c mv id w hP (Nat.le_refl _) (by omega)).mono ?_
  rintro e w' ⟨⟨r, rfl, hr⟩, hb⟩
  exact ⟨r, rfl, hr, h.below hb⟩
theorem HX.tail {a : Option Addr} {n c : Nat} {x : Q} (h : HX w0 w p room F m (.slice a n c) (x :: mv)) (hn : n = mv.length + 1) :
    ∃ b off, a = some ⟨b, off, none⟩ ∧ n ≤ c ∧ c ≤ 9223372036854775807 ∧ HX w0 w p room F m (.slice (if c = 1 then some ⟨b, off, none⟩ else some ⟨b, off + 4, none⟩) (n - 1) (c - 1)) mv ∧ Q4 w b off x := by
  subst hn
  have hs := h.s
  obtain ⟨a2, c2, e, hP, hH, _⟩ := hs
  simp only [Value.slice.injEq] at e
  obtain ⟨rfl, _, rfl⟩ := e
  rcases hH with ⟨_, h0, _⟩ | ⟨b, off, rfl, hc, hc2⟩
  · simp at h0
  have hd := Sl.drop (m := x :: mv) h.s 1 (by simp)
  rw [Nat.one_mul] at hd
  obtain ⟨b', off', e, _, hcc⟩ := hP.2 (by simp)
  simp only [Option.some.injEq, Addr.mk.injEq] at e
  obtain ⟨rfl, rfl, _⟩ := e
  have h0 := hcc 0 (by simp)
  rw [Nat.zero_mul, Nat.add_zero] at h0
  exact ⟨b, off, rfl, hc, hc2, ⟨h.a, hd⟩, h0⟩
end
theorem idx_two {m : List Q} {id r : Int} (h : Idx (fun x => x.2.2.2 == id) m r) :
    (r = -1 ∧ (m.any fun x => x.2.2.2 == id) = false) ∨ ∃ q : Nat, ∃ hq : q < m.length, r = (q : Int) ∧ m[q].2.2.2 = id ∧ (m.any fun x => x.2.2.2 == id) = true := by
  have ha := h.any
  rcases h with ⟨rfl, _⟩ | ⟨q, hq, rfl, hp, _⟩
  · exact .inl ⟨rfl, by rw [← ha]; rfl⟩
  · exact .inr ⟨q, hq, rfl, by simpa using hp, by rw [← ha]; simp⟩
/-- Without the one at q. -/
theorem filter_at {m : List Q} (hn : (m.map (·.2.2.2)).Nodup) (q : Nat) (h : q < m.length) : (m.filter fun d => !(d.2.2.2 == m[q].2.2.2)) = m.take q ++ m.drop (q + 1) := by
  induction m generalizing q with
  | nil => simp at h
  | cons x m ih =>
    simp only [List.map_cons, List.nodup_cons] at hn
    cases q with
    | zero =>
      simp only [List.getElem_cons_zero, List.take_zero, List.nil_append, List.drop_succ_cons, List.drop_zero]
      rw [List.filter_cons_of_neg (by simp), List.filter_eq_self.2]
      intro d hd
      have : d.2.2.2 ≠ x.2.2.2 := fun e => hn.1 (List.mem_map.2 ⟨d, hd, e⟩)
      simpa using this
    | succ q =>
      simp only [List.getElem_cons_succ, List.take_succ_cons, List.drop_succ_cons, List.cons_append]
      have hq : q < m.length := by simpa using h
      rw [List.filter_cons_of_pos, ih hn.2 q hq]
      have : x.2.2.2 ≠ m[q].2.2.2 := fun e => hn.1 (List.mem_map.2 ⟨m[q], List.getElem_mem hq, e.symm⟩)
      simpa using this
end Go.Proofs.Ytaogdgbijjjpjaa
