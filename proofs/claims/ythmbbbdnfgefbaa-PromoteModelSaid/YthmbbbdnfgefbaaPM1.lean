/- ROWS OF JOBS (id, time) beside a promoter: read as swapped entries. -/
import Derived.Test.YthmbbbdnfgefbaaM1
import Derived.Test.YthmbbbdnfgefbaaP3
namespace Go.Proofs.Ythmbbbdnfgefbaa
open Go.RowKit
set_option linter.unusedVariables false

theorem Try.info58 : (Try.prog.info? 58).map (fun i => (i.zero, i.size, i.bytes)) = some (some (.agg #[.int .i64 0, .int .i64 0]), 2, 16) := by kernel_rfl

def sw (m : List (Int × Int)) : List (Int × Int) := m.map Prod.swap
theorem sw_len (m : List (Int × Int)) : (sw m).length = m.length := by simp [sw]
theorem sw_at (m : List (Int × Int)) (j : Nat) (h : j < m.length) : (sw m)[j]'(by rw [sw_len]; exact h) = (m[j].2, m[j].1) := by simp [sw, Prod.swap]
theorem sw_take (m : List (Int × Int)) (j : Nat) : sw (m.take j) = (sw m).take j := by simp [sw, List.map_take]
theorem sw_drop (m : List (Int × Int)) (j : Nat) : sw (m.drop j) = (sw m).drop j := by simp [sw, List.map_drop]
theorem sw_app (m l : List (Int × Int)) : sw (m ++ l) = sw m ++ sw l := by simp [sw]

theorem dues_of_own58 {w : World} {base n : Nat} {a : Option Addr} {cap : Nat} {l : List (Int × Int)} (h : w.ownsRow base 58 2 (.slice a n cap) l.length (l.flatMap dueC)) (hn : n = l.length) : PairsIn w.heap.size w a n l := by
  refine ⟨hn.symm, fun h0 => ?_⟩
  obtain ⟨g, cap', hv, _, hlt, _, hc, _⟩ := ownsRow_cells h (by omega)
  simp at hv
  obtain ⟨rfl, _⟩ := hv
  refine ⟨g, 0, rfl, hlt, fun j hj => ?_⟩
  have := fun k (hk : k < 2) => flatMap_at dueC 2 dueC_length l j k hj hk
  have a0 := hc (j * 2 + 0) _ (by rw [this 0 (by omega)]; rfl)
  have a1 := hc (j * 2 + 1) _ (by rw [this 1 (by omega)]; rfl)
  rw [Nat.add_zero] at a0
  rw [Nat.zero_add]
  exact ⟨a0, a1⟩
theorem Sl.of_own58 {w w' : World} {F : Nat → Prop} {v : Value} {m : List (Int × Int)} {n : Nat} (hn : n = m.length) (h : w'.ownsRow w.heap.size 58 2 v n (m.flatMap dueC)) (hF : ∀ k, F k → k < w.heap.size) : Sl w' F v m := by
  subst hn
  obtain ⟨a, c, rfl⟩ := ownsRow_form h
  refine ⟨a, c, rfl, dues_of_own58 h rfl, ?_, fun b off e => ?_⟩
  · rcases h.2 with ⟨hv, h0⟩ | ⟨g, cap, cur, hv, hb, hh, hc, hmx, _⟩
    · simp at hv; exact .inl ⟨hv.1, by rw [hv.2.1]; rfl, hv.2.2⟩
    · simp at hv
      obtain ⟨rfl, rfl⟩ := hv
      exact .inr ⟨g, 0, rfl, hc, by unfold maxLen at hmx; omega⟩
  · subst e
    exact ⟨ownsRow_lt h b rfl, fun hk => by have := ownsRow_block h b rfl; have := hF b hk; omega⟩

theorem step_append58 {w : World} {ops : Array Oper} {o : Oper} {a : Act} {K : Act → World → Prop} {Q : Exit → Act → World → Prop} {E : Prop} (hgd : o.guard = none) (s y : Operand)
    (ho : o.op = .call { callee := .builtin .append, args := #[s, y], argTypes := #[54, 54] }) (base n m : Nat) (l r : List (Int × Int)) (v x : Value) (hs : a.eval s = v) (hy : a.eval y = x)
    (hown : w.ownsRow base 58 2 v n (l.flatMap dueC)) (hx : Src w x m (r.flatMap dueC)) (hr : r.length = m) (hbnd : n + m ≤ 4096) (hbase : base ≤ w.heap.size)
    (h : ∀ v' w', w'.ownsRow base 58 2 v' (n + m) ((l ++ r).flatMap dueC) → w.grownBy w' v.ownBlock → (v'.ownBlock = v.ownBlock ∨ v'.ownBlock = some w.heap.size) → K (a.put o.dst v') w') :
    if Region.wanted o (yielded ops a.tmps) = true then Oper.wp Try.prog o a w K Q else E := by
  obtain ⟨i0, ki, kz0, kz1, kz2⟩ := info_parts Try.info58
  refine step_append_row hgd s y 54 ho base 58 i0 _ 2 16 Try.underlying54 ki kz0 kz1 kz2 rfl (by omega) v n (l.flatMap dueC) hs hown x m (r.flatMap dueC) hy (by rw [flat_length, hr]) hx (due_one r) (by unfold maxLen; omega) (by omega) hbase fun v' w' h2 h3 h4 => h v' w' ?_ h3 h4
  rw [List.flatMap_append]
  exact h2
/-- An append onto a row that was made since w0. -/
theorem step_bel58 {w0 : World} {w : World} {ops : Array Oper} {o : Oper} {a : Act} {K : Act → World → Prop} {Q : Exit → Act → World → Prop} {E : Prop} (hgd : o.guard = none) (s y : Operand)
    (ho : o.op = .call { callee := .builtin .append, args := #[s, y], argTypes := #[54, 54] }) (n m : Nat) (l r : List (Int × Int)) (v x : Value) (hs : a.eval s = v) (hy : a.eval y = x) (hP : Below w0.heap.size w0 w)
    (hown : w.ownsRow w0.heap.size 58 2 v n (l.flatMap dueC)) (hx : Src w x m (r.flatMap dueC)) (hr : r.length = m) (hbnd : n + m ≤ 4096)
    (h : ∀ v' w', w'.ownsRow w0.heap.size 58 2 v' (n + m) ((l ++ r).flatMap dueC) → Below w0.heap.size w0 w' → w.grownBy w' v.ownBlock → K (a.put o.dst v') w') :
    if Region.wanted o (yielded ops a.tmps) = true then Oper.wp Try.prog o a w K Q else E :=
  step_append58 hgd s y ho _ n m l r v x hs hy hown hx hr hbnd hP.size fun v' w' h2 h3 _ => h v' w' h2 (hP.grown h3 hP.size fun k e => ownsRow_block hown k e) h3
theorem src_new58 (W : World) (d1 d2 : Int) (g : Nat) (hg : g = W.heap.size) : Src (W.alloc (.cells #[.int .i64 d1, .int .i64 d2] 58)) (.slice (some ⟨g, 0, none⟩) 1 1) 1 ([(d1, d2)].flatMap dueC) := by
  subst hg
  exact .inr ⟨_, _, rfl, fun j u hu => cell_new _ _ _ j u hu⟩
theorem own_lit58 (W : World) (base g : Nat) (hg : g = W.heap.size) (hb : base ≤ W.heap.size) : (W.alloc (.cells #[] 58)).ownsRow base 58 2 (.slice (some ⟨g, 0, none⟩) 0 0) 0 (([] : List (Int × Int)).flatMap dueC) := by
  subst hg
  exact World.ownsRow_lit (size := 2) (e := 58) W #[] 0 hb (Nat.zero_le _) rfl
theorem own_lit258 (W : World) (o : Obj) (base g : Nat) (hg : g = W.heap.size + 1) (hb : base ≤ W.heap.size) : ((W.alloc o).alloc (.cells #[] 58)).ownsRow base 58 2 (.slice (some ⟨g, 0, none⟩) 0 0) 0 (([] : List (Int × Int)).flatMap dueC) :=
  own_lit58 (W.alloc o) base g (by simp [hg]) (by simp; omega)

/-- The acts that come in: what, an id, three times. -/
structure A5 (w : World) (b o : Nat) (x : Int × Int × Int × Int × Int) : Prop where
  c0 : w.cell? ⟨b, o, none⟩ = some (.int .i64 x.1)
  c1 : w.cell? ⟨b, o + 1, none⟩ = some (.int .i64 x.2.1)
  c2 : w.cell? ⟨b, o + 2, none⟩ = some (.int .i64 x.2.2.1)
  c3 : w.cell? ⟨b, o + 3, none⟩ = some (.int .i64 x.2.2.2.1)
  c4 : w.cell? ⟨b, o + 4, none⟩ = some (.int .i64 x.2.2.2.2)
theorem A5.below {w w' : World} {b o : Nat} {x : Int × Int × Int × Int × Int} (h : A5 w b o x) (hb : Below w.heap.size w w') : A5 w' b o x :=
  ⟨(hb.cell (p := ⟨b, o, none⟩) (block_lt h.c0)).trans h.c0, (hb.cell (p := ⟨b, o + 1, none⟩) (block_lt (a := ⟨b, o, none⟩) h.c0)).trans h.c1, (hb.cell (p := ⟨b, o + 2, none⟩) (block_lt (a := ⟨b, o, none⟩) h.c0)).trans h.c2, (hb.cell (p := ⟨b, o + 3, none⟩) (block_lt (a := ⟨b, o, none⟩) h.c0)).trans h.c3, (hb.cell (p := ⟨b, o + 4, none⟩) (block_lt (a := ⟨b, o, none⟩) h.c0)).trans h.c4⟩
theorem A5.fr {F : Nat → Prop} {w w' : World} {b o : Nat} {x : Int × Int × Int × Int × Int} (h : A5 w b o x) (hf : Fr F w w') (hF : ¬ F b) : A5 w' b o x :=
  ⟨(hf.cell (p := ⟨b, o, none⟩) (block_lt h.c0) hF).trans h.c0, (hf.cell (p := ⟨b, o + 1, none⟩) (block_lt (a := ⟨b, o, none⟩) h.c0) hF).trans h.c1, (hf.cell (p := ⟨b, o + 2, none⟩) (block_lt (a := ⟨b, o, none⟩) h.c0) hF).trans h.c2, (hf.cell (p := ⟨b, o + 3, none⟩) (block_lt (a := ⟨b, o, none⟩) h.c0) hF).trans h.c3, (hf.cell (p := ⟨b, o + 4, none⟩) (block_lt (a := ⟨b, o, none⟩) h.c0) hF).trans h.c4⟩
def A5sIn (B : Nat) (w : World) (a : Option Addr) (n : Nat) (xs : List (Int × Int × Int × Int × Int)) : Prop :=
  xs.length = n ∧ (0 < n → ∃ b off, a = some ⟨b, off, none⟩ ∧ b < B ∧ ∀ j (h : j < xs.length), A5 w b (off + j * 5) xs[j])
theorem A5sIn.keep {w w' : World} {a : Option Addr} {n B : Nat} {xs : List (Int × Int × Int × Int × Int)} (h : A5sIn B w a n xs) (hb : Below B w w') : A5sIn B w' a n xs :=
  ⟨h.1, fun hn => by
    obtain ⟨b, off, e, hlt, hc⟩ := h.2 hn
    exact ⟨b, off, e, hlt, fun j hj => ⟨(hb.cell (p := ⟨b, off + j * 5, none⟩) hlt).trans (hc j hj).c0, (hb.cell (p := ⟨b, off + j * 5 + 1, none⟩) hlt).trans (hc j hj).c1, (hb.cell (p := ⟨b, off + j * 5 + 2, none⟩) hlt).trans (hc j hj).c2, (hb.cell (p := ⟨b, off + j * 5 + 3, none⟩) hlt).trans (hc j hj).c3, (hb.cell (p := ⟨b, off + j * 5 + 4, none⟩) hlt).trans (hc j hj).c4⟩⟩⟩

/-- A promoter made since w0, beside a list of the statement's own. -/
structure PJ (w0 w : World) (q p room : Nat) (F : Nat → Prop) (now : Int) (m : List (Int × Int)) (v : Value) (mv : List (Int × Int)) : Prop where
  a : PX w0 w q p room F now m
  s : Sl w F v (sw mv)
section
variable {w0 w w' : World} {q p room : Nat} {F F' : Nat → Prop} {now now' : Int} {m m' mv : List (Int × Int)} {v : Value}
theorem PJ.bel (h : PJ w0 w q p room F now m v mv) : Below w0.heap.size w0 w := h.a.bel
theorem PJ.turn (h : PJ w0 w q p room F now m v mv) (h' : PX w0 w' q p room F' now' m') (hF : ∀ k, F' k → F k ∨ w.heap.size ≤ k) (hf : Fr F w w') : PJ w0 w' q p room F' now' m' v mv := ⟨h', h.s.turn hF hf⟩
theorem PJ.below (h : PJ w0 w q p room F now m v mv) (hb : Below w.heap.size w w') : PJ w0 w' q p room F now m v mv := ⟨h.a.below hb, h.s.below hb⟩
theorem PJ.wait {id release d r x y : Int} (h : PJ w0 w q p room F now m v mv) (hd : d ≤ 9223372036854775807) (hE : waitM now room m id release d r = (x, y, m')) :
    Calls Try.prog 24 #[.pointer (some ⟨q, 0, none⟩), .int .i64 id, .int .i64 release, .int .i64 d, .int .i64 r] w fun e w' => e = .returned (.tuple #[.int .i64 x, .int .i64 y]) ∧ ∃ F', PJ w0 w' q p room F' now m' v mv ∧ (∀ k, F' k → F k ∨ w.heap.size ≤ k) ∧ Fr F w w' :=
  (h.a.wait_is hd hE).mono fun _ _ ⟨he, F', hW, hF, hf⟩ => ⟨he, F', h.turn hW hF hf, hF, hf⟩
theorem PJ.drop (h : PJ w0 w q p room F now m v mv) (id : Int) :
    Calls Try.prog 25 #[.pointer (some ⟨q, 0, none⟩), .int .i64 id] w fun e w' => e = .returned (.bool (m.any fun d => d.2 == id)) ∧ ∃ F', PJ w0 w' q p room F' now (m.filter fun d => !(d.2 == id)) v mv ∧ (∀ k, F' k → F k ∨ w.heap.size ≤ k) ∧ Fr F w w' :=
  (h.a.drop id).mono fun _ _ ⟨he, F', hW, hF, hf⟩ => ⟨he, F', h.turn hW hF hf, hF, hf⟩
theorem PJ.waiting (h : PJ w0 w q p room F now m v mv) : Calls Try.prog 27 #[.pointer (some ⟨q, 0, none⟩)] w fun e w' => e = .returned (.int .i64 m.length) ∧ w = w' := h.a.waiting
theorem PJ.adv_bad (h : PJ w0 w q p room F now m v mv) (t : Int) (hb : t < now ∨ 1099511627776 < t) :
    Calls Try.prog 26 #[.pointer (some ⟨q, 0, none⟩), .int .i64 t] w fun e w' => e = .returned (.tuple #[.slice none 0 0, .int .i64 1]) ∧ PJ w0 w' q p room F now m v mv ∧ Below w.heap.size w w' :=
  (h.a.adv_bad t hb).mono fun _ _ ⟨he, hW, hb⟩ => ⟨he, ⟨hW, h.s.below hb⟩, hb⟩
theorem PJ.adv (h : PJ w0 w q p room F now m v mv) (t : Int) (h1 : now ≤ t) (h2 : t ≤ 1099511627776) :
    Calls Try.prog 26 #[.pointer (some ⟨q, 0, none⟩), .int .i64 t] w fun e w' => ∃ (a : Option Addr) (c : Nat) (F' : Nat → Prop), e = .returned (.tuple #[.slice a (m.filter fun d => decide (d.1 ≤ t)).length c, .int .i64 0]) ∧
      IntsIn w'.heap.size w' a (m.filter fun d => decide (d.1 ≤ t)).length ((m.filter fun d => decide (d.1 ≤ t)).map (·.2)) ∧
      PJ w0 w' q p room F' t (m.filter fun d => !decide (d.1 ≤ t)) v mv ∧ (∀ k, F' k → F k ∨ w.heap.size ≤ k) ∧ Fr F w w' := by
  refine (h.a.adv t h1 h2).mono ?_
  rintro e w' ⟨v', F', rfl, hown, hW, hF, _, hf⟩
  obtain ⟨a, c, rfl⟩ := ownsRow_form hown
  refine ⟨a, c, F', rfl, ⟨by simp, fun hn => ?_⟩, h.turn hW hF hf, hF, hf⟩
  obtain ⟨g, cap', hv, _, hlt, _, hc, _⟩ := ownsRow_cells hown hn
  simp at hv
  obtain ⟨rfl, _⟩ := hv
  refine ⟨g, 0, rfl, hlt, fun j hj => ?_⟩
  have := hc j (.int .i64 ((m.filter fun d => decide (d.1 ≤ t)).map (·.2))[j]) (by rw [List.getElem?_map]; simp at hj; rw [List.getElem?_eq_getElem (by simpa using hj)]; simp [intC])
  rw [Nat.zero_add]
  exact this
theorem PJ.own {L : List (Int × Int)} {v' : Value} {n : Nat} (h : PJ w0 w q p room F now m v mv) (hb : Below w.heap.size w w') (hn : n = L.length) (ho : w'.ownsRow w.heap.size 58 2 v' n ((sw L).flatMap dueC)) : PJ w0 w' q p room F now m v' L :=
  ⟨h.a.below hb, Sl.of_own58 (by rw [sw_len]; exact hn) ho fun k hk => (h.a.a.flt k hk).1⟩
end
theorem jobs_get {B : Nat} {w : World} {a : Option Addr} {n : Nat} {m : List (Int × Int)} (h : PairsIn B w a n (sw m)) (hn : 0 < n) :
    ∃ b off, a = some ⟨b, off, none⟩ ∧ b < B ∧ ∀ j (h : j < m.length), w.cell? ⟨b, off + j * 2, none⟩ = some (.int .i64 m[j].2) ∧ w.cell? ⟨b, off + j * 2 + 1, none⟩ = some (.int .i64 m[j].1) := by
  obtain ⟨b, off, e, hb, hc⟩ := h.2 hn
  refine ⟨b, off, e, hb, fun j hj => ?_⟩
  have := hc j (by rw [sw_len]; exact hj)
  rw [sw_at m j hj] at this
  exact this
/-- An act, boxed. -/
structure Bx5 (w : World) (F : Nat → Prop) (b : Nat) (x0 x1 x2 x3 x4 : Int) : Prop where
  lt : b < w.heap.size
  nf : ¬ F b
  c0 : w.cell? ⟨b, 0, none⟩ = some (.int .i64 x0)
  c1 : w.cell? ⟨b, 1, none⟩ = some (.int .i64 x1)
  c2 : w.cell? ⟨b, 2, none⟩ = some (.int .i64 x2)
  c3 : w.cell? ⟨b, 3, none⟩ = some (.int .i64 x3)
  c4 : w.cell? ⟨b, 4, none⟩ = some (.int .i64 x4)
section
variable {w w' : World} {F F' : Nat → Prop} {b : Nat} {x0 x1 x2 x3 x4 : Int}
theorem Bx5.turn (h : Bx5 w F b x0 x1 x2 x3 x4) (hF : ∀ k, F' k → F k ∨ w.heap.size ≤ k) (hf : Fr F w w') : Bx5 w' F' b x0 x1 x2 x3 x4 :=
  ⟨Nat.lt_of_lt_of_le h.lt hf.size, fun hk => (hF b hk).elim h.nf fun hk => by have := h.lt; omega, (hf.cell (p := ⟨b, 0, none⟩) h.lt h.nf).trans h.c0, (hf.cell (p := ⟨b, 1, none⟩) h.lt h.nf).trans h.c1, (hf.cell (p := ⟨b, 2, none⟩) h.lt h.nf).trans h.c2, (hf.cell (p := ⟨b, 3, none⟩) h.lt h.nf).trans h.c3, (hf.cell (p := ⟨b, 4, none⟩) h.lt h.nf).trans h.c4⟩
theorem Bx5.below (h : Bx5 w F b x0 x1 x2 x3 x4) (hb : Below w.heap.size w w') : Bx5 w' F b x0 x1 x2 x3 x4 := h.turn (fun k hk => .inl hk) (Fr.of_below hb)
theorem Bx5.new (w : World) (F : Nat → Prop) (x0 x1 x2 x3 x4 : Int) (T : TypeId) (hF : ∀ k, F k → k < w.heap.size) : Bx5 (w.alloc (.cells #[.int .i64 x0, .int .i64 x1, .int .i64 x2, .int .i64 x3, .int .i64 x4] T)) F w.heap.size x0 x1 x2 x3 x4 :=
  ⟨by simp, fun hk => by have := hF _ hk; omega, cell_newb _ _ _ _ 0 _ rfl rfl, cell_newb _ _ _ _ 1 _ rfl rfl, cell_newb _ _ _ _ 2 _ rfl rfl, cell_newb _ _ _ _ 3 _ rfl rfl, cell_newb _ _ _ _ 4 _ rfl rfl⟩
end
/-- What is asked for wrongly. -/
theorem waitM_wrong {now room : Int} {m : List (Int × Int)} {id release d r : Int} (h : r < 1 ∨ d < r ∨ release < 0 ∨ 1099511627776 < release ∨ 1099511627776 - release < d - r ∨ release + (d - r) < now) : waitM now room m id release d r = (0, 1, m) := by
  by_cases h0 : r < 1 ∨ d < r
  · exact waitM_bad h0
  have e1 : offM d r = (d - r, true) := by unfold offM; rw [if_neg h0]
  by_cases h1 : tim release ∧ tim (d - r) ∧ release ≤ 4611686018427387904 - (d - r)
  · have e2 : sumM release (d - r) = (release + (d - r), true) := by unfold sumM; rw [if_pos h1]
    have e3 : addM now room m (release + (d - r), id) = (1, m) := by unfold addM; rw [if_pos (by have := h1.1; unfold tim at this; simp; omega)]
    unfold waitM
    simp only [e1, e2, e3]
    simp
  · have e2 : (sumM release (d - r)).2 = false := by unfold sumM; rw [if_neg h1]
    unfold waitM
    simp only [e1]
    rw [if_pos (Or.inr e2)]
def I64 (x : Int) : Prop := -9223372036854775808 ≤ x ∧ x ≤ 9223372036854775807
theorem IntsIn.keep {w w' : World} {a : Option Addr} {n B : Nat} {xs : List Int} (h : IntsIn B w a n xs) (hb : Below B w w') : IntsIn B w' a n xs :=
  ⟨h.1, fun hn => by
    obtain ⟨b, off, e, hlt, hc⟩ := h.2 hn
    exact ⟨b, off, e, hlt, fun j hj => (hb.cell (p := ⟨b, off + j, none⟩) hlt).trans (hc j hj)⟩⟩
theorem due_get {m : List (Int × Int)} (t : Int) (j : Nat) (h : j < m.length) (hall : ∀ i (h : i < m.length), i < j + 1 → m[i].1 ≤ t) :
    ∃ h' : j < (m.filter fun d => decide (d.1 ≤ t)).length, (m.filter fun d => decide (d.1 ≤ t))[j] = m[j] := by
  induction m generalizing j with
  | nil => simp at h
  | cons x m ih =>
    have h0 : x.1 ≤ t := hall 0 (by simp) (by omega)
    have e : ((x :: m).filter fun d => decide (d.1 ≤ t)) = x :: m.filter fun d => decide (d.1 ≤ t) := List.filter_cons_of_pos (by simpa using h0)
    cases j with
    | zero => exact ⟨by rw [e]; simp, by simp [e]⟩
    | succ j =>
      obtain ⟨a, b⟩ := ih j (by simpa using h) (fun i hi hij => hall (i + 1) (by simpa using hi) (by omega))
      exact ⟨by rw [e]; simpa using a, by simp only [e, List.getElem_cons_succ]; exact b⟩
theorem Sl.resl {w : World} {F : Nat → Prop} {a : Option Addr} {c : Nat} {m : List (Int × Int)} (h : Sl w F (.slice a m.length c) (sw m)) : Sl w F (.slice a (sw m).length c) (sw m) := by rw [sw_len]; exact h
end Go.Proofs.Ythmbbbdnfgefbaa
