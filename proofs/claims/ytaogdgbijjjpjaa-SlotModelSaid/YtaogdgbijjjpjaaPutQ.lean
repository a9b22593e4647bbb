/- WALK: put. First: append of a row that lies, be it empty or nil. -/
import Derived.Test.YtaogdgbijjjpjaaRefW
import Derived.Deep.RegionHeld3
import Derived.Deep.DrawnRows
namespace Go.Proofs.Ytaogdgbijjjpjaa
open Go.RowKit
set_option linter.unusedVariables false

/-- What is appended: a slice that is nil, or one that lies. -/
def Src (w : World) (x : Value) (m : Nat) (news : List Value) : Prop :=
  (m = 0 ∧ x = .slice none 0 0) ∨ ∃ ad c, x = .slice (some ad) m c ∧ ∀ j u, news[j]? = some u → w.cell? (ad.add j) = some u

theorem run_append_row {P : Program} (w : World) (t ty : TypeId) (base : Nat) (e : TypeId) (i : TypeInfo) (z : Value) (size bytes : Nat) (ht : P.underlying t = some (.slice e)) (hi : P.info? e = some i) (hz : i.zero = some z)
    (hsize : i.size = size) (hby : i.bytes = bytes) (hzs : z.cells.size = size) (hsz : 0 < size)
    (v : Value) (n : Nat) (xs : List Value) (hown : w.ownsRow base e size v n xs)
    (x : Value) (m : Nat) (news : List Value) (hl : news.length = m * size) (hx : Src w x m news) (h1 : ∀ u ∈ news, u.oneCell' = true)
    (h63 : n + m ≤ maxLen) (hbytes : (n + m) * bytes ≤ 140737488355328) (hbase : base ≤ w.heap.size) :
    ∃ v' w', (Builtin.append_ #[t, t] ty #[v, x]).run P w = .ok v' w' ∧ w'.ownsRow base e size v' (n + m) (xs ++ news) ∧ w.grownBy w' v.ownBlock ∧ (v'.ownBlock = v.ownBlock ∨ v'.ownBlock = some w.heap.size) := by
  rcases hx with ⟨rfl, rfl⟩ | ⟨ad, c, rfl, hc⟩
  · have hn : news = [] := List.eq_nil_of_length_eq_zero (by simpa using hl)
    subst hn
    exact ⟨v, w, run_append_owned_none w base t ty e i size ht hi v n xs hown, by simpa using hown, ⟨rfl, rfl, rfl, Nat.le_refl _, fun _ _ _ => rfl⟩, .inl rfl⟩
  · obtain ⟨v', w', hr, h2, h3, _, h5⟩ := run_append_own_at (P := P) w base t ty e i z size bytes ht hi hz hsize hby hzs hsz v n xs hown ad m c news hl hc h1 h63 hbytes hbase
    exact ⟨v', w', hr, h2, h3, h5⟩

theorem wp_append_row {P : Program} {w : World} {o : Oper} {a : Act} {K : Act → World → Prop} {Q' : Exit → Act → World → Prop} (s y : Operand) (t : TypeId)
    (ho : o.op = .call { callee := .builtin .append, args := #[s, y], argTypes := #[t, t] })
    (base : Nat) (e : TypeId) (i : TypeInfo) (z : Value) (size bytes : Nat) (ht : P.underlying t = some (.slice e)) (hi : P.info? e = some i) (hz : i.zero = some z)
    (hsize : i.size = size) (hby : i.bytes = bytes) (hzs : z.cells.size = size) (hsz : 0 < size)
    (v : Value) (n : Nat) (xs : List Value) (hs : a.eval s = v) (hown : w.ownsRow base e size v n xs)
    (x : Value) (m : Nat) (news : List Value) (hy : a.eval y = x) (hl : news.length = m * size) (hx : Src w x m news) (h1 : ∀ u ∈ news, u.oneCell' = true)
    (h63 : n + m ≤ maxLen) (hbytes : (n + m) * bytes ≤ 140737488355328) (hbase : base ≤ w.heap.size)
    (h : ∀ v' w', w'.ownsRow base e size v' (n + m) (xs ++ news) → w.grownBy w' v.ownBlock → (v'.ownBlock = v.ownBlock ∨ v'.ownBlock = some w.heap.size) → K (a.put o.dst v') w') : o.wp P a w K Q' := by
  obtain ⟨v', w', hr, h2, h3, h4⟩ := run_append_row (P := P) w t o.type base e i z size bytes ht hi hz hsize hby hzs hsz v n xs hown x m news hl hx h1 h63 hbytes hbase
  unfold Oper.wp execOp
  simp only [ho, resolve, invoke, builtin, Sem.run_bind, Sem.run_pure, Result.andThen_ok, List.map_toArray, List.map_cons, List.map_nil, hs, hy, hr]
  exact h v' w' h2 h3 h4

theorem step_append_row {P : Program} {w : World} {ops : Array Oper} {o : Oper} {a : Act} {K : Act → World → Prop} {Q' : Exit → Act → World → Prop} {E : Prop} (hgd : o.guard = none) (s y : Operand) (t : TypeId)
    (ho : o.op = .call { callee := .builtin .append, args := #[s, y], argTypes := #[t, t] })
    (base : Nat) (e : TypeId) (i : TypeInfo) (z : Value) (size bytes : Nat) (ht : P.underlying t = some (.slice e)) (hi : P.info? e = some i) (hz : i.zero = some z)
    (hsize : i.size = size) (hby : i.bytes = bytes) (hzs : z.cells.size = size) (hsz : 0 < size)
    (v : Value) (n : Nat) (xs : List Value) (hs : a.eval s = v) (hown : w.ownsRow base e size v n xs)
    (x : Value) (m : Nat) (news : List Value) (hy : a.eval y = x) (hl : news.length = m * size) (hx : Src w x m news) (h1 : ∀ u ∈ news, u.oneCell' = true)
    (h63 : n + m ≤ maxLen) (hbytes : (n + m) * bytes ≤ 140737488355328) (hbase : base ≤ w.heap.size)
    (h : ∀ v' w', w'.ownsRow base e size v' (n + m) (xs ++ news) → w.grownBy w' v.ownBlock → (v'.ownBlock = v.ownBlock ∨ v'.ownBlock = some w.heap.size) → K (a.put o.dst v') w') :
    if Region.wanted o (yielded ops a.tmps) = true then Oper.wp P o a w K Q' else E := by
  have hw : Region.wanted o (yielded ops a.tmps) = true := by simp [Region.wanted, hgd]
  rw [if_pos hw]
  exact wp_append_row s y t ho base e i z size bytes ht hi hz hsize hby hzs hsz v n xs hs hown x m news hy hl hx h1 h63 hbytes hbase h

/-- THE LAW at an entry's row: three worlds by one word. -/
theorem step_append_due {w : World} {ops : Array Oper} {o : Oper} {a : Act} {K : Act → World → Prop} {Q' : Exit → Act → World → Prop} {E : Prop} (hgd : o.guard = none) (s y : Operand)
    (ho : o.op = .call { callee := .builtin .append, args := #[s, y], argTypes := #[27, 27] }) (base n m : Nat) (l r : List Q) (v x : Value) (hs : a.eval s = v) (hy : a.eval y = x)
    (hown : w.ownsRow base 23 4 v n (l.flatMap qc)) (hx : Src w x m (r.flatMap qc)) (hr : r.length = m) (hbnd : n + m ≤ 4096) (hbase : base ≤ w.heap.size)
    (h : ∀ v' w', w'.ownsRow base 23 4 v' (n + m) ((l ++ r).flatMap qc) → w.grownBy w' v.ownBlock → (v'.ownBlock = v.ownBlock ∨ v'.ownBlock = some w.heap.size) → K (a.put o.dst v') w') :
    if Region.wanted o (yielded ops a.tmps) = true then Oper.wp Try.prog o a w K Q' else E := by
  obtain ⟨i0, ki, kz0, kz1, kz2⟩ := info_parts Try.info23
  refine step_append_row hgd s y 27 ho base 23 i0 _ 4 32 Try.underlying27 ki kz0 kz1 kz2 rfl (by omega) v n (l.flatMap qc) hs hown x m (r.flatMap qc) hy (by rw [flat_length, hr]) hx (qc_one r) (by unfold maxLen; omega) (by omega) hbase fun v' w' h2 h3 h4 => h v' w' ?_ h3 h4
  rw [List.flatMap_append]
  exact h2
/-- While put puts together: the key lies boxed; of what was, nothing has turned. -/
structure PutS (w : World) (d : Q) (W : World) : Prop where
  g : Q4 W w.heap.size 0 d
  bel : Below w.heap.size w W
  lt : w.heap.size < W.heap.size
theorem PutS.drew {w W : World} {d : Q} (h : PutS w d W) : PutS w d W.drew := ⟨⟨h.g.c0, h.g.c1, h.g.c2, h.g.c3⟩, h.bel.trans ⟨rfl, rfl, rfl, Nat.le_refl _, fun _ _ => rfl⟩, h.lt⟩
theorem PutS.alloc {w W : World} {d : Q} (h : PutS w d W) (o : Obj) : PutS w d (W.alloc o) :=
  ⟨h.g.below ((Below.refl _ W).alloc (Nat.le_refl _) o), h.bel.alloc (Nat.le_of_lt h.lt) o, by have := h.lt; simp; omega⟩
theorem PutS.grown {w W W' : World} {d : Q} (h : PutS w d W) {row : Option Nat} (hg : W.grownBy W' row) (hr : ∀ k, row = some k → w.heap.size < k) : PutS w d W' :=
  ⟨⟨(hg.cell_far ⟨w.heap.size, _, none⟩ h.lt (fun e => Nat.lt_irrefl _ (hr _ e.symm))).trans h.g.c0, (hg.cell_far ⟨w.heap.size, _, none⟩ h.lt (fun e => Nat.lt_irrefl _ (hr _ e.symm))).trans h.g.c1, (hg.cell_far ⟨w.heap.size, _, none⟩ h.lt (fun e => Nat.lt_irrefl _ (hr _ e.symm))).trans h.g.c2, (hg.cell_far ⟨w.heap.size, _, none⟩ h.lt (fun e => Nat.lt_irrefl _ (hr _ e.symm))).trans h.g.c3⟩,
    h.bel.grown hg (Nat.le_of_lt h.lt) (fun k e => Nat.le_of_lt (hr k e)), Nat.lt_of_lt_of_le h.lt hg.size⟩
theorem PutS.three {w W : World} {d0 d1 d2 d3 : Int} (h : PutS w (d0, d1, d2, d3) W) : W.cell? ⟨w.heap.size, 0, none⟩ = some (.int .i64 d0) ∧ W.cell? ⟨w.heap.size, 1, none⟩ = some (.int .i64 d1) ∧ W.cell? ⟨w.heap.size, 2, none⟩ = some (.int .i64 d2) ∧ W.cell? ⟨w.heap.size, 3, none⟩ = some (.int .i64 d3) ∧ PutS w (d0, d1, d2, d3) W := ⟨h.g.c0, h.g.c1, h.g.c2, h.g.c3, h⟩

theorem step_put {w0 : World} {d : Q} {w : World} {ops : Array Oper} {o : Oper} {a : Act} {K : Act → World → Prop} {Q' : Exit → Act → World → Prop} {E : Prop} (hgd : o.guard = none) (s y : Operand)
    (ho : o.op = .call { callee := .builtin .append, args := #[s, y], argTypes := #[27, 27] }) (n m : Nat) (l r : List Q) (v x : Value) (hs : a.eval s = v) (hy : a.eval y = x) (hP : PutS w0 d w)
    (hown : w.ownsRow (w0.heap.size + 1) 23 4 v n (l.flatMap qc)) (hx : Src w x m (r.flatMap qc)) (hr : r.length = m) (hbnd : n + m ≤ 4096)
    (h : ∀ v' w', w'.ownsRow (w0.heap.size + 1) 23 4 v' (n + m) ((l ++ r).flatMap qc) → PutS w0 d w' → w.grownBy w' v.ownBlock → K (a.put o.dst v') w') :
    if Region.wanted o (yielded ops a.tmps) = true then Oper.wp Try.prog o a w K Q' else E :=
  step_append_due hgd s y ho _ n m l r v x hs hy hown hx hr hbnd (by have := hP.lt; omega) fun v' w' h2 h3 _ => h v' w' h2 (hP.grown h3 fun k e => by have := ownsRow_block hown k e; omega) h3

/-- An append onto a row that was made since w0. -/
theorem step_bel {w0 : World} {w : World} {ops : Array Oper} {o : Oper} {a : Act} {K : Act → World → Prop} {Q' : Exit → Act → World → Prop} {E : Prop} (hgd : o.guard = none) (s y : Operand)
    (ho : o.op = .call { callee := .builtin .append, args := #[s, y], argTypes := #[27, 27] }) (n m : Nat) (l r : List Q) (v x : Value) (hs : a.eval s = v) (hy : a.eval y = x) (hP : Below w0.heap.size w0 w)
    (hown : w.ownsRow w0.heap.size 23 4 v n (l.flatMap qc)) (hx : Src w x m (r.flatMap qc)) (hr : r.length = m) (hbnd : n + m ≤ 4096)
    (h : ∀ v' w', w'.ownsRow w0.heap.size 23 4 v' (n + m) ((l ++ r).flatMap qc) → Below w0.heap.size w0 w' → w.grownBy w' v.ownBlock → K (a.put o.dst v') w') :
    if Region.wanted o (yielded ops a.tmps) = true then Oper.wp Try.prog o a w K Q' else E :=
  step_append_due hgd s y ho _ n m l r v x hs hy hown hx hr hbnd hP.size fun v' w' h2 h3 _ => h v' w' h2 (hP.grown h3 hP.size fun k e => ownsRow_block hown k e) h3

theorem src_far {W W' : World} {g m c : Nat} {news : List Value} {row : Option Nat} (h : Src W (.slice (some ⟨g, 0, none⟩) m c) m news) (hg : W.grownBy W' row) (hlt : g < W.heap.size) (hne : some g ≠ row) : Src W' (.slice (some ⟨g, 0, none⟩) m c) m news := by
  rcases h with ⟨_, h⟩ | ⟨ad, c', h, hc⟩
  · cases h
  · simp only [Value.slice.injEq, Option.some.injEq, true_and] at h
    obtain ⟨rfl, rfl⟩ := h
    exact .inr ⟨_, _, rfl, fun j u hu => by
      have := hc j u hu
      rw [add_none] at this ⊢
      exact (hg.cell_far _ hlt hne).trans this⟩
theorem src_alloc {W : World} {g m c : Nat} {news : List Value} (h : Src W (.slice (some ⟨g, 0, none⟩) m c) m news) (hlt : g < W.heap.size) (o : Obj) : Src (W.alloc o) (.slice (some ⟨g, 0, none⟩) m c) m news := by
  rcases h with ⟨_, h⟩ | ⟨ad, c', h, hc⟩
  · cases h
  · simp only [Value.slice.injEq, Option.some.injEq, true_and] at h
    obtain ⟨rfl, rfl⟩ := h
    exact .inr ⟨_, _, rfl, fun j u hu => by
      have := hc j u hu
      rw [add_none] at this ⊢
      exact ((Below.refl _ W).alloc (Nat.le_refl _) o).cell hlt |>.trans this⟩
theorem src_new (W : World) (d0 d1 d2 d3 : Int) (g : Nat) (hg : g = W.heap.size) : Src (W.alloc (.cells #[.int .i64 d0, .int .i64 d1, .int .i64 d2, .int .i64 d3] 23)) (.slice (some ⟨g, 0, none⟩) 1 1) 1 ([(d0, d1, d2, d3)].flatMap qc) := by
  subst hg
  exact .inr ⟨_, _, rfl, fun j u hu => cell_new _ _ _ j u hu⟩
theorem src_drew {W : World} {x : Value} {m : Nat} {news : List Value} (h : Src W x m news) : Src W.drew x m news := h
theorem own_lit (W : World) (base g : Nat) (hg : g = W.heap.size) (hb : base ≤ W.heap.size) : (W.alloc (.cells #[] 23)).ownsRow base 23 4 (.slice (some ⟨g, 0, none⟩) 0 0) 0 (([] : List Q).flatMap qc) := by
  subst hg
  exact World.ownsRow_lit (size := 4) (e := 23) W #[] 0 hb (Nat.zero_le _) rfl

theorem own_lit2 (W : World) (o : Obj) (base g : Nat) (hg : g = W.heap.size + 1) (hb : base ≤ W.heap.size) : ((W.alloc o).alloc (.cells #[] 23)).ownsRow base 23 4 (.slice (some ⟨g, 0, none⟩) 0 0) 0 (([] : List Q).flatMap qc) :=
  own_lit (W.alloc o) base g (by simp [hg]) (by simp; omega)

theorem flat_four (l : List Q) (j : Nat) (u : Value) (h : (l.flatMap qc)[j]? = some u) : ∃ (hj : j / 4 < l.length), (qc l[j / 4])[j % 4]? = some u := by
  have hl : j < (l.flatMap qc).length := (List.getElem?_eq_some_iff.1 h).1
  rw [flat_length] at hl
  have := flatMap_at qc 4 qc_length l (j / 4) (j % 4) (by omega) (by omega)
  rw [show j / 4 * 4 + j % 4 = j from by omega, h] at this
  exact ⟨by omega, this.symm⟩
theorem pairs_flat {B : Nat} {w : World} {b off n : Nat} {l : List Q} (hm : QsIn B w (some ⟨b, off, none⟩) n l) (j : Nat) (u : Value) (h : (l.flatMap qc)[j]? = some u) : b < B ∧ w.cell? ⟨b, off + j, none⟩ = some u := by
  obtain ⟨hj, hu⟩ := flat_four l j u h
  obtain ⟨b', off', e, hb, hc⟩ := hm.2 (by rw [← hm.1]; omega)
  simp only [Option.some.injEq, Addr.mk.injEq] at e
  obtain ⟨rfl, rfl, _⟩ := e
  obtain ⟨c0, c1, c2, c3⟩ := hc _ hj
  refine ⟨hb, ?_⟩
  have h4 : j % 4 = 0 ∨ j % 4 = 1 ∨ j % 4 = 2 ∨ j % 4 = 3 := by omega
  rcases h4 with h4 | h4 | h4 | h4 <;> rw [h4] at hu <;> simp only [qc, List.getElem?_cons_zero, List.getElem?_cons_succ, Option.some.injEq] at hu <;> rw [← hu]
  · rw [← c0, show off + j = off + j / 4 * 4 by omega]
  · rw [← c1, show off + j = off + j / 4 * 4 + 1 by omega]
  · rw [← c2, show off + j = off + j / 4 * 4 + 2 by omega]
  · rw [← c3, show off + j = off + j / 4 * 4 + 3 by omega]
theorem src_take {w W : World} {b off n c k : Nat} {l : List Q} (hm : QsIn w.heap.size w (some ⟨b, off, none⟩) n l) (hb : Below w.heap.size w W) (hk : k ≤ n) : Src W (.slice (some ⟨b, off, none⟩) k c) k ((l.take k).flatMap qc) := by
  refine .inr ⟨_, _, rfl, fun j u hu => ?_⟩
  rw [add_none]
  have e : l.flatMap qc = (l.take k).flatMap qc ++ (l.drop k).flatMap qc := by rw [← List.flatMap_append, List.take_append_drop]
  have hj : j < ((l.take k).flatMap qc).length := (List.getElem?_eq_some_iff.1 hu).1
  obtain ⟨h1, h2⟩ := pairs_flat hm j u (by rw [e, List.getElem?_append_left hj]; exact hu)
  exact (hb.cell (p := ⟨b, off + j, none⟩) h1).trans h2
theorem src_drop {w W : World} {b off n c k : Nat} {l : List Q} (hm : QsIn w.heap.size w (some ⟨b, off, none⟩) n l) (hb : Below w.heap.size w W) (hk : k ≤ n) (hc : n ≤ c) :
    Src W (.slice (if c = k then some ⟨b, off, none⟩ else some ⟨b, off + k * 4, none⟩) (n - k) (c - k)) (n - k) ((l.drop k).flatMap qc) := by
  have e : l.flatMap qc = (l.take k).flatMap qc ++ (l.drop k).flatMap qc := by rw [← List.flatMap_append, List.take_append_drop]
  by_cases hck : c = k
  · rw [if_pos hck]
    refine .inr ⟨_, _, rfl, fun j u hu => ?_⟩
    rw [List.drop_eq_nil_of_le (by rw [hm.1]; omega)] at hu
    simp at hu
  · rw [if_neg hck]
    refine .inr ⟨_, _, rfl, fun j u hu => ?_⟩
    rw [add_none]
    have hl : ((l.take k).flatMap qc).length = k * 4 := by rw [flat_length, List.length_take, hm.1, Nat.min_eq_left hk]
    obtain ⟨h1, h2⟩ := pairs_flat hm (k * 4 + j) u (by rw [e, List.getElem?_append_right (by omega), hl, Nat.add_sub_cancel_left]; exact hu)
    have := (hb.cell (p := ⟨b, off + (k * 4 + j), none⟩) h1).trans h2
    rw [← Nat.add_assoc] at this
    exact this

theorem ins_at (d : Q) (l : List Q) (k : Nat) (h1 : ∀ j (h : j < l.length), j < k → ltK l[j] d = true) (h2 : ∀ h : k < l.length, ltK l[k] d = false) (h3 : k ≤ l.length) : insK d l = l.take k ++ d :: l.drop k := by
  have e : l.takeWhile (fun x => ltK x d) = l.take k ∧ l.dropWhile (fun x => ltK x d) = l.drop k := by
    induction l generalizing k with
    | nil => simp
    | cons x l ih =>
      cases k with
      | zero =>
        have := h2 (by simp)
        simp only [List.getElem_cons_zero] at this
        rw [List.takeWhile_cons, List.dropWhile_cons, this]; simp
      | succ k =>
        have hx := h1 0 (by simp) (by omega)
        simp only [List.getElem_cons_zero] at hx
        obtain ⟨a, b⟩ := ih k (fun j h hj => h1 (j + 1) (by simp; omega) (by omega)) (fun h => h2 (by simp; omega)) (by simpa using h3)
        rw [List.takeWhile_cons, List.dropWhile_cons, if_pos hx, if_pos hx, a, b]; simp
  unfold insK
  rw [e.1, e.2]

end Go.Proofs.Ytaogdgbijjjpjaa
