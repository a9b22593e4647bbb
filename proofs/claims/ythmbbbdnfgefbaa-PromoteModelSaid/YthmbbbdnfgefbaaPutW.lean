/- WALK: put. First: append of a row that lies, be it empty or nil. -/
import Derived.Test.YthmbbbdnfgefbaaW9
import Derived.Deep.RegionHeld3
import Derived.Deep.DrawnRows
namespace Go.Proofs.Ythmbbbdnfgefbaa
open Go.RowKit
set_option linter.unusedVariables false

/-- What is appended: a slice that is nil, or one that lies. -/
def Src (w : World) (x : Value) (m : Nat) (news : List Value) : Prop :=
  (m = 0 ∧ x = .slice none 0 0) ∨ ∃ ad c, x = .slice (some ad) m c ∧ ∀ j u, news[j]? = some u → w.cell? (ad.add j) = some u

theorem run_append_row {P : Program} (w : World) (t ty : TypeId) (base : Nat) (e : TypeId) (i : TypeInfo) (z : Value) (size bytes : Nat) (ht : P.underlying t = some (.slice e)) (hi : P.info? e = some i) (hz : i.zero = some z)
    (hsize : i.size = size) (hby : i.bytes = bytes) (hzs : z.cells.size = size) (hsz : 0 < size)
    (v : Value) (n : Nat) (xs : List Value) (hown : w.ownsRow base e size v n xs)
    (x : Value) (m : Nat) (news : List Value) (hl : news.length = m * size) (hx : Src w x m news) (h1 : ∀ u ∈ news, u.oneCell' = true)
    (h63 : n + m ≤ maxLen) (hbytes : (n + m) * bytes ≤ 140737488355328) (hbase : base ≤ w.heap.size) :
    ∃ v' w', (Builtin.append_ #[t, t] ty #[v, x]).run P w = .ok v' w' ∧ w'.ownsRow base e size v' (n + m) (xs ++ news) ∧ w.grownBy w' v.ownBlock ∧ (v'.ownBlock = v.ownBlock ∨ v'.ownBlock = some w.heap.size) := by
  rcases hx with ⟨rfl, rfl⟩ | ⟨ad, c, rfl, hc⟩
  · have hn : news = [] := List.eq_nil_of_length_eq_zero (by simpa using hl)
    subst hn
    exact ⟨v, w, run_append_owned_none w base t ty e i size ht hi v n xs hown, by simpa using hown, ⟨rfl, rfl, rfl, Nat.le_refl _, fun _ _ _ => rfl⟩, .inl rfl⟩
  · obtain ⟨v', w', hr, h2, h3, _, h5⟩ := run_append_own_at (P := P) w base t ty e i z size bytes ht hi hz hsize hby hzs hsz v n xs hown ad m c news hl hc h1 h63 hbytes hbase
    exact ⟨v', w', hr, h2, h3, h5⟩

theorem wp_append_row {P : Program} {w : World} {o : Oper} {a : Act} {K : Act → World → Prop} {Q : Exit → Act → World → Prop} (s y : Operand) (t : TypeId)
    (ho : o.op = .call { callee := .builtin .append, args := #[s, y], argTypes := #[t, t] })
    (base : Nat) (e : TypeId) (i : TypeInfo) (z : Value) (size bytes : Nat) (ht : P.underlying t = some (.slice e)) (hi : P.info? e = some i) (hz : i.zero = some z)
    (hsize : i.size = size) (hby : i.bytes = bytes) (hzs : z.cells.size = size) (hsz : 0 < size)
    (v : Value) (n : Nat) (xs : List Value) (hs : a.eval s = v) (hown : w.ownsRow base e size v n xs)
    (x : Value) (m : Nat) (news : List Value) (hy : a.eval y = x) (hl : news.length = m * size) (hx : Src w x m news) (h1 : ∀ u ∈ news, u.oneCell' = true)
    (h63 : n + m ≤ maxLen) (hbytes : (n + m) * bytes ≤ 140737488355328) (hbase : base ≤ w.heap.size)
    (h : ∀ v' w', w'.ownsRow base e size v' (n + m) (xs ++ news) → w.grownBy w' v.ownBlock → (v'.ownBlock = v.ownBlock ∨ v'.ownBlock = some w.heap.size) → K (a.put o.dst v') w') : o.wp P a w K Q := by
  obtain ⟨v', w', hr, h2, h3, h4⟩ := run_append_row (P := P) w t o.type base e i z size bytes ht hi hz hsize hby hzs hsz v n xs hown x m news hl hx h1 h63 hbytes hbase
  unfold Oper.wp execOp
  simp only [ho, resolve, invoke, builtin, Sem.run_bind, Sem.run_pure, Result.andThen_ok, List.map_toArray, List.map_cons, List.map_nil, hs, hy, hr]
  exact h v' w' h2 h3 h4

theorem step_append_row {P : Program} {w : World} {ops : Array Oper} {o : Oper} {a : Act} {K : Act → World → Prop} {Q : Exit → Act → World → Prop} {E : Prop} (hgd : o.guard = none) (s y : Operand) (t : TypeId)
    (ho : o.op = .call { callee := .builtin .append, args := #[s, y], argTypes := #[t, t] })
    (base : Nat) (e : TypeId) (i : TypeInfo) (z : Value) (size bytes : Nat) (ht : P.underlying t = some (.slice e)) (hi : P.info? e = some i) (hz : i.zero = some z)
    (hsize : i.size = size) (hby : i.bytes = bytes) (hzs : z.cells.size = size) (hsz : 0 < size)
    (v : Value) (n : Nat) (xs : List Value) (hs : a.eval s = v) (hown : w.ownsRow base e size v n xs)
    (x : Value) (m : Nat) (news : List Value) (hy : a.eval y = x) (hl : news.length = m * size) (hx : Src w x m news) (h1 : ∀ u ∈ news, u.oneCell' = true)
    (h63 : n + m ≤ maxLen) (hbytes : (n + m) * bytes ≤ 140737488355328) (hbase : base ≤ w.heap.size)
    (h : ∀ v' w', w'.ownsRow base e size v' (n + m) (xs ++ news) → w.grownBy w' v.ownBlock → (v'.ownBlock = v.ownBlock ∨ v'.ownBlock = some w.heap.size) → K (a.put o.dst v') w') :
    if Region.wanted o (yielded ops a.tmps) = true then Oper.wp P o a w K Q else E := by
  have hw : Region.wanted o (yielded ops a.tmps) = true := by simp [Region.wanted, hgd]
  rw [if_pos hw]
  exact wp_append_row s y t ho base e i z size bytes ht hi hz hsize hby hzs hsz v n xs hs hown x m news hy hl hx h1 h63 hbytes hbase h

theorem due_one (l : List (Int × Int)) : ∀ u ∈ l.flatMap dueC, u.oneCell' = true := by
  intro u hu
  simp only [List.mem_flatMap] at hu
  obtain ⟨x, _, hu⟩ := hu
  simp [dueC] at hu
  rcases hu with rfl | rfl <;> rfl

/-- THE LAW at an entry's row: three worlds by one word. -/
theorem step_append_due {w : World} {ops : Array Oper} {o : Oper} {a : Act} {K : Act → World → Prop} {Q : Exit → Act → World → Prop} {E : Prop} (hgd : o.guard = none) (s y : Operand)
    (ho : o.op = .call { callee := .builtin .append, args := #[s, y], argTypes := #[28, 28] }) (base n m : Nat) (l r : List (Int × Int)) (v x : Value) (hs : a.eval s = v) (hy : a.eval y = x)
    (hown : w.ownsRow base 30 2 v n (l.flatMap dueC)) (hx : Src w x m (r.flatMap dueC)) (hr : r.length = m) (hbnd : n + m ≤ 4096) (hbase : base ≤ w.heap.size)
    (h : ∀ v' w', w'.ownsRow base 30 2 v' (n + m) ((l ++ r).flatMap dueC) → w.grownBy w' v.ownBlock → (v'.ownBlock = v.ownBlock ∨ v'.ownBlock = some w.heap.size) → K (a.put o.dst v') w') :
    if Region.wanted o (yielded ops a.tmps) = true then Oper.wp Try.prog o a w K Q else E := by
  obtain ⟨i0, ki, kz0, kz1, kz2⟩ := info_parts Try.info30
  refine step_append_row hgd s y 28 ho base 30 i0 _ 2 16 Try.underlying28 ki kz0 kz1 kz2 rfl (by omega) v n (l.flatMap dueC) hs hown x m (r.flatMap dueC) hy (by rw [flat_length, hr]) hx (due_one r) (by unfold maxLen; omega) (by omega) hbase fun v' w' h2 h3 h4 => h v' w' ?_ h3 h4
  rw [List.flatMap_append]
  exact h2
/-- While put puts together: the entry lies boxed; of what was, nothing has turned. -/
structure PutS (w : World) (d1 d2 : Int) (W : World) : Prop where
  g0 : W.cell? ⟨w.heap.size, 0, none⟩ = some (.int .i64 d1)
  g1 : W.cell? ⟨w.heap.size, 1, none⟩ = some (.int .i64 d2)
  bel : Below w.heap.size w W
  lt : w.heap.size < W.heap.size
theorem PutS.drew {w W : World} {d1 d2 : Int} (h : PutS w d1 d2 W) : PutS w d1 d2 W.drew := ⟨h.g0, h.g1, h.bel.trans ⟨rfl, rfl, rfl, Nat.le_refl _, fun _ _ => rfl⟩, h.lt⟩
theorem PutS.alloc {w W : World} {d1 d2 : Int} (h : PutS w d1 d2 W) (o : Obj) : PutS w d1 d2 (W.alloc o) :=
  ⟨((((Below.refl _ W).alloc (Nat.le_refl _) o).cell (p := ⟨w.heap.size, 0, none⟩) h.lt)).trans h.g0, ((((Below.refl _ W).alloc (Nat.le_refl _) o).cell (p := ⟨w.heap.size, 1, none⟩) h.lt)).trans h.g1, h.bel.alloc (Nat.le_of_lt h.lt) o, by have := h.lt; simp; omega⟩
theorem PutS.grown {w W W' : World} {d1 d2 : Int} (h : PutS w d1 d2 W) {row : Option Nat} (hg : W.grownBy W' row) (hr : ∀ k, row = some k → w.heap.size < k) : PutS w d1 d2 W' :=
  ⟨(hg.cell_far ⟨w.heap.size, 0, none⟩ h.lt (fun e => Nat.lt_irrefl _ (hr _ e.symm))).trans h.g0, (hg.cell_far ⟨w.heap.size, 1, none⟩ h.lt (fun e => Nat.lt_irrefl _ (hr _ e.symm))).trans h.g1,
    h.bel.grown hg (Nat.le_of_lt h.lt) (fun k e => Nat.le_of_lt (hr k e)), Nat.lt_of_lt_of_le h.lt hg.size⟩
theorem PutS.three {w W : World} {d1 d2 : Int} (h : PutS w d1 d2 W) : W.cell? ⟨w.heap.size, 0, none⟩ = some (.int .i64 d1) ∧ W.cell? ⟨w.heap.size, 1, none⟩ = some (.int .i64 d2) ∧ PutS w d1 d2 W := ⟨h.g0, h.g1, h⟩

theorem step_put {w0 : World} {d1 d2 : Int} {w : World} {ops : Array Oper} {o : Oper} {a : Act} {K : Act → World → Prop} {Q : Exit → Act → World → Prop} {E : Prop} (hgd : o.guard = none) (s y : Operand)
    (ho : o.op = .call { callee := .builtin .append, args := #[s, y], argTypes := #[28, 28] }) (n m : Nat) (l r : List (Int × Int)) (v x : Value) (hs : a.eval s = v) (hy : a.eval y = x) (hP : PutS w0 d1 d2 w)
    (hown : w.ownsRow (w0.heap.size + 1) 30 2 v n (l.flatMap dueC)) (hx : Src w x m (r.flatMap dueC)) (hr : r.length = m) (hbnd : n + m ≤ 4096)
    (h : ∀ v' w', w'.ownsRow (w0.heap.size + 1) 30 2 v' (n + m) ((l ++ r).flatMap dueC) → PutS w0 d1 d2 w' → w.grownBy w' v.ownBlock → K (a.put o.dst v') w') :
    if Region.wanted o (yielded ops a.tmps) = true then Oper.wp Try.prog o a w K Q else E :=
  step_append_due hgd s y ho _ n m l r v x hs hy hown hx hr hbnd (by have := hP.lt; omega) fun v' w' h2 h3 _ => h v' w' h2 (hP.grown h3 fun k e => by have := ownsRow_block hown k e; omega) h3

theorem src_far {W W' : World} {g m c : Nat} {news : List Value} {row : Option Nat} (h : Src W (.slice (some ⟨g, 0, none⟩) m c) m news) (hg : W.grownBy W' row) (hlt : g < W.heap.size) (hne : some g ≠ row) : Src W' (.slice (some ⟨g, 0, none⟩) m c) m news := by
  rcases h with ⟨_, h⟩ | ⟨ad, c', h, hc⟩
  · cases h
  · simp only [Value.slice.injEq, Option.some.injEq, true_and] at h
    obtain ⟨rfl, rfl⟩ := h
    exact .inr ⟨_, _, rfl, fun j u hu => by
      have := hc j u hu
      rw [add_none] at this ⊢
      exact (hg.cell_far _ hlt hne).trans this⟩
theorem src_alloc {W : World} {g m c : Nat} {news : List Value} (h : Src W (.slice (some ⟨g, 0, none⟩) m c) m news) (hlt : g < W.heap.size) (o : Obj) : Src (W.alloc o) (.slice (some ⟨g, 0, none⟩) m c) m news := by
  rcases h with ⟨_, h⟩ | ⟨ad, c', h, hc⟩
  · cases h
  · simp only [Value.slice.injEq, Option.some.injEq, true_and] at h
    obtain ⟨rfl, rfl⟩ := h
    exact .inr ⟨_, _, rfl, fun j u hu => by
      have := hc j u hu
      rw [add_none] at this ⊢
      exact ((Below.refl _ W).alloc (Nat.le_refl _) o).cell hlt |>.trans this⟩
theorem src_new (W : World) (d1 d2 : Int) (g : Nat) (hg : g = W.heap.size) : Src (W.alloc (.cells #[.int .i64 d1, .int .i64 d2] 30)) (.slice (some ⟨g, 0, none⟩) 1 1) 1 ([(d1, d2)].flatMap dueC) := by
  subst hg
  exact .inr ⟨_, _, rfl, fun j u hu => cell_new _ _ _ j u hu⟩
theorem src_drew {W : World} {x : Value} {m : Nat} {news : List Value} (h : Src W x m news) : Src W.drew x m news := h
theorem own_lit (W : World) (base g : Nat) (hg : g = W.heap.size) (hb : base ≤ W.heap.size) : (W.alloc (.cells #[] 30)).ownsRow base 30 2 (.slice (some ⟨g, 0, none⟩) 0 0) 0 (([] : List (Int × Int)).flatMap dueC) := by
  subst hg
  exact World.ownsRow_lit (size := 2) (e := 30) W #[] 0 hb (Nat.zero_le _) rfl

theorem own_lit2 (W : World) (o : Obj) (base g : Nat) (hg : g = W.heap.size + 1) (hb : base ≤ W.heap.size) : ((W.alloc o).alloc (.cells #[] 30)).ownsRow base 30 2 (.slice (some ⟨g, 0, none⟩) 0 0) 0 (([] : List (Int × Int)).flatMap dueC) :=
  own_lit (W.alloc o) base g (by simp [hg]) (by simp; omega)

theorem flat_two (l : List (Int × Int)) (j : Nat) (u : Value) (h : (l.flatMap dueC)[j]? = some u) : ∃ (hj : j / 2 < l.length), (dueC l[j / 2])[j % 2]? = some u := by
  have hl : j < (l.flatMap dueC).length := (List.getElem?_eq_some_iff.1 h).1
  rw [flat_length] at hl
  have := flatMap_at dueC 2 dueC_length l (j / 2) (j % 2) (by omega) (by omega)
  rw [show j / 2 * 2 + j % 2 = j from by omega, h] at this
  exact ⟨by omega, this.symm⟩
theorem pairs_flat {B : Nat} {w : World} {b off n : Nat} {l : List (Int × Int)} (hm : PairsIn B w (some ⟨b, off, none⟩) n l) (j : Nat) (u : Value) (h : (l.flatMap dueC)[j]? = some u) : b < B ∧ w.cell? ⟨b, off + j, none⟩ = some u := by
  obtain ⟨hj, hu⟩ := flat_two l j u h
  obtain ⟨b', off', e, hb, hc⟩ := hm.2 (by rw [← hm.1]; omega)
  simp only [Option.some.injEq, Addr.mk.injEq] at e
  obtain ⟨rfl, rfl, _⟩ := e
  obtain ⟨c0, c1⟩ := hc _ hj
  refine ⟨hb, ?_⟩
  by_cases h2 : j % 2 = 0
  · rw [h2] at hu
    simp only [dueC, List.getElem?_cons_zero, Option.some.injEq] at hu
    rw [← hu, ← c0, show b = b from rfl, show off + j = off + j / 2 * 2 by omega]
  · have h3 : j % 2 = 1 := by omega
    rw [h3] at hu
    simp only [dueC, List.getElem?_cons_succ, List.getElem?_cons_zero, Option.some.injEq] at hu
    rw [← hu, ← c1, show off + j = off + j / 2 * 2 + 1 by omega]
theorem src_take {w W : World} {b off n c k : Nat} {l : List (Int × Int)} (hm : PairsIn w.heap.size w (some ⟨b, off, none⟩) n l) (hb : Below w.heap.size w W) (hk : k ≤ n) : Src W (.slice (some ⟨b, off, none⟩) k c) k ((l.take k).flatMap dueC) := by
  refine .inr ⟨_, _, rfl, fun j u hu => ?_⟩
  rw [add_none]
  have e : l.flatMap dueC = (l.take k).flatMap dueC ++ (l.drop k).flatMap dueC := by rw [← List.flatMap_append, List.take_append_drop]
  have hj : j < ((l.take k).flatMap dueC).length := (List.getElem?_eq_some_iff.1 hu).1
  obtain ⟨h1, h2⟩ := pairs_flat hm j u (by rw [e, List.getElem?_append_left hj]; exact hu)
  exact (hb.cell (p := ⟨b, off + j, none⟩) h1).trans h2
theorem src_drop {w W : World} {b off n c k : Nat} {l : List (Int × Int)} (hm : PairsIn w.heap.size w (some ⟨b, off, none⟩) n l) (hb : Below w.heap.size w W) (hk : k ≤ n) (hc : n ≤ c) :
    Src W (.slice (if c = k then some ⟨b, off, none⟩ else some ⟨b, off + k * 2, none⟩) (n - k) (c - k)) (n - k) ((l.drop k).flatMap dueC) := by
  have e : l.flatMap dueC = (l.take k).flatMap dueC ++ (l.drop k).flatMap dueC := by rw [← List.flatMap_append, List.take_append_drop]
  by_cases hck : c = k
  · rw [if_pos hck]
    refine .inr ⟨_, _, rfl, fun j u hu => ?_⟩
    rw [List.drop_eq_nil_of_le (by rw [hm.1]; omega)] at hu
    simp at hu
  · rw [if_neg hck]
    refine .inr ⟨_, _, rfl, fun j u hu => ?_⟩
    rw [add_none]
    have hl : ((l.take k).flatMap dueC).length = k * 2 := by rw [flat_length, List.length_take, hm.1, Nat.min_eq_left hk]
    obtain ⟨h1, h2⟩ := pairs_flat hm (k * 2 + j) u (by rw [e, List.getElem?_append_right (by omega), hl, Nat.add_sub_cancel_left]; exact hu)
    have := (hb.cell (p := ⟨b, off + (k * 2 + j), none⟩) h1).trans h2
    rw [← Nat.add_assoc] at this
    exact this

theorem ins_at (d : Int × Int) (l : List (Int × Int)) (k : Nat) (h1 : ∀ j (h : j < l.length), j < k → ltD l[j] d = true) (h2 : ∀ h : k < l.length, ltD l[k] d = false) (h3 : k ≤ l.length) : ins d l = l.take k ++ d :: l.drop k := by
  have e : l.takeWhile (fun x => ltD x d) = l.take k ∧ l.dropWhile (fun x => ltD x d) = l.drop k := by
    induction l generalizing k with
    | nil => simp
    | cons x l ih =>
      cases k with
      | zero =>
        have := h2 (by simp)
        simp only [List.getElem_cons_zero] at this
        rw [List.takeWhile_cons, List.dropWhile_cons, this]; simp
      | succ k =>
        have hx := h1 0 (by simp) (by omega)
        simp only [List.getElem_cons_zero] at hx
        obtain ⟨a, b⟩ := ih k (fun j h hj => h1 (j + 1) (by simp; omega) (by omega)) (fun h => h2 (by simp; omega)) (by simpa using h3)
        rw [List.takeWhile_cons, List.dropWhile_cons, if_pos hx, if_pos hx, a, b]; simp
  unfold ins
  rw [e.1, e.2]

/-- Where a slice lies that is read: nil, or somewhere. -/
def Has (a : Option Addr) (n c : Nat) : Prop := (a = none ∧ n = 0 ∧ c = 0) ∨ ∃ b off, a = some ⟨b, off, none⟩ ∧ n ≤ c ∧ c ≤ 9223372036854775807

set_option maxHeartbeats 4000000 in
set_option maxRecDepth 100000 in
theorem put_any (a : Option Addr) (n c : Nat) (l : List (Int × Int)) (d1 d2 : Int) (w : World) (hm : PairsIn w.heap.size w a n l) (hc : Has a n c) (hn : n ≤ 1024) :
    Calls Try.prog 14 #[.slice a n c, .agg #[.int .i64 d1, .int .i64 d2]] w fun e w' => ∃ v, e = .returned v ∧ w'.ownsRow w.heap.size 30 2 v (n + 1) ((ins (d1, d2) l).flatMap dueC) ∧ Below w.heap.size w w' := by
  have hll := hm.1
  go_enter Try.func14, Try.ntmps14
  go_wp2_with fail
  generalize hw1 : w.alloc (.cells #[.int .i64 d1, .int .i64 d2] 30) = w1
  have e0 : w1.cell? ⟨w.heap.size, 0, none⟩ = some (.int .i64 d1) := by rw [← hw1]; exact cell_new _ _ _ 0 _ rfl
  have e1 : w1.cell? ⟨w.heap.size, 1, none⟩ = some (.int .i64 d2) := by rw [← hw1]; exact cell_new _ _ _ 1 _ rfl
  have hb1 : Below w.heap.size w w1 := by rw [← hw1]; exact (Below.refl _ _).alloc (Nat.le_refl _) _
  have hs1 : w.heap.size < w1.heap.size := by rw [← hw1]; simp
  clear hw1
  have HE := Lib.hid hm
  go_wp2_with fail
  go_loopw [5] (fun i wr => ∃ k : Nat, k ≤ n ∧ i = .int .i64 k ∧ (wr.cell? ⟨w.heap.size, 0, none⟩ = some (.int .i64 d1) ∧ wr.cell? ⟨w.heap.size, 1, none⟩ = some (.int .i64 d2) ∧ Below w.heap.size w wr ∧ w.heap.size < wr.heap.size) ∧ Hid (∀ j (h : j < l.length), j < k → ltD l[j] (d1, d2) = true)) (fun i _ => n - (intOf i).toNat)
  case atStart => exact ⟨0, Nat.zero_le _, rfl, ⟨e0, e1, hb1, hs1⟩, fun j h hj => by omega⟩
  case round =>
    clear e0 e1 hb1 hs1
    obtain ⟨k, hk, rfl, ⟨g0, g1, hbq, hsq⟩, HL⟩ := hrel
    have HB : Hid (∀ q, Below w.heap.size w (wr.drewN q)) := fun q => hbq.trans ⟨rfl, rfl, rfl, Nat.le_refl _, fun _ _ => rfl⟩
    go_upto_region 2 with fail
    go_cut [39] (fun s wx => ∃ bb : Bool, s = .bool bb ∧ Hid (bb = true ↔ ∃ h : k < l.length, ltD l[k] (d1, d2) = true) ∧ (wx.cell? ⟨w.heap.size, 0, none⟩ = some (.int .i64 d1) ∧ wx.cell? ⟨w.heap.size, 1, none⟩ = some (.int .i64 d2) ∧ Below w.heap.size w wx ∧ w.heap.size < wx.heap.size))
    case first =>
      by_cases hkn : k < n
      · obtain ⟨b, off, rfl, hbB, hcc⟩ := (HE.out.keep hbq).2 (by omega)
        obtain ⟨c0, c1⟩ := hcc k (by omega)
        have hb2 : b < wr.heap.size := by omega
        obtain ⟨x1, hx1⟩ : ∃ g, l[k].1 = g := ⟨_, rfl⟩
        obtain ⟨x2, hx2⟩ : ∃ g, l[k].2 = g := ⟨_, rfl⟩
        have hlk : l[k] = (x1, x2) := Prod.ext hx1 hx2
        rw [hx1] at c0
        rw [hx2] at c1
        have HX : Hid (∀ bb : Bool, ltD (x1, x2) (d1, d2) = bb → (bb = true ↔ ∃ h : k < l.length, ltD l[k] (d1, d2) = true)) := by
          intro bb he
          rw [← hlk] at he
          rw [← he]
          exact ⟨fun h => ⟨by omega, h⟩, fun ⟨_, h⟩ => h⟩
        clear hcc hx1 hx2 hlk hm
        have hknI : (k : Int) < (n : Int) := by omega
        by_cases t1 : x1 < d1
        · have Hlt : Hid (ltD (x1, x2) (d1, d2) = true) := by show _ = _; rw [ltD_iff]; left; exact t1
          go_wp2_with fail
          go_quiet (fail)
          go_wp2_with fail
          go_meet
          case rel => exact ⟨true, rfl, HX.out _ Hlt.out, g0, g1, HB.out _, hsq⟩
        · by_cases t2 : x1 = d1
          · by_cases t3 : x2 < d2
            · have Hlt : Hid (ltD (x1, x2) (d1, d2) = true) := by show _ = _; rw [ltD_iff]; right; exact ⟨t2, t3⟩
              subst t2
              go_wp2_with fail
              go_quiet (fail)
              go_wp2_with fail
              go_meet
              case rel => exact ⟨true, rfl, HX.out _ Hlt.out, g0, g1, HB.out _, hsq⟩
            · have Hge : Hid (ltD (x1, x2) (d1, d2) = false) := by show _ = _; rw [ltD_not]; simp; omega
              subst t2
              go_wp2_with fail
              go_quiet (fail)
              go_wp2_with fail
              go_meet
              case rel => exact ⟨false, congrArg Value.bool (decide_eq_false (Int.not_lt.2 t3)), HX.out _ Hge.out, g0, g1, HB.out _, hsq⟩
          · have Hge : Hid (ltD (x1, x2) (d1, d2) = false) := by show _ = _; rw [ltD_not]; simp; omega
            go_wp2_with fail
            go_quiet (fail)
            go_wp2_with fail
            go_meet
            case rel => exact ⟨false, congrArg Value.bool (decide_eq_false (Int.not_lt.2 t1)), HX.out _ Hge.out, g0, g1, HB.out _, hsq⟩
      · obtain rfl : k = n := by omega
        go_wp2_with fail
        go_quiet (fail)
        go_wp2_with fail
        go_meet
        case rel => exact ⟨false, rfl, ⟨fun h => by simp at h, fun ⟨h, _⟩ => by omega⟩, g0, g1, HB.out _, hsq⟩
    case rest =>
      clear g0 g1 hbq hsq HB
      obtain ⟨bb, rfl, Hbb, ⟨g0, g1, hbq, hsq⟩⟩ := hcut
      cases bb
      rotate_left
      · obtain ⟨hkl, hlt⟩ := Hbb.out.1 rfl
        have HS : Hid (∀ j (h : j < l.length), j < k + 1 → ltD l[j] (d1, d2) = true) := by
          intro j h hj
          rcases Nat.lt_or_ge j k with hjk | hjk
          · exact HL.out j h hjk
          · obtain rfl : j = k := by omega
            exact hlt
        clear hlt HL Hbb
        go_wp2_with fail
        go_roundw
        case rel => exact ⟨k + 1, by omega, by go_num, ⟨g0, g1, hbq, hsq⟩, HS⟩
        case measure => simp [intOf]; omega
      · have hins : ins (d1, d2) l = l.take k ++ (d1, d2) :: l.drop k := ins_at _ l k HL.out (fun h => by
          cases hc : ltD l[k] (d1, d2)
          · rfl
          · have := Hbb.out.2 ⟨h, hc⟩; simp at this) (by omega)
        have Hins := Lib.hid hins
        clear hins HL Hbb
        rcases hc with ⟨rfl, rfl, rfl⟩ | ⟨b, off, rfl, hnc, hc2⟩
        · obtain rfl : l = [] := List.eq_nil_of_length_eq_zero hll
          obtain rfl : k = 0 := by omega
          obtain ⟨L1, hL1⟩ : ∃ L, L = ([] : List (Int × Int)) := ⟨_, rfl⟩
          obtain ⟨L3, hL3⟩ : ∃ L, L = ([] : List (Int × Int)) := ⟨_, rfl⟩
          have hP : PutS w d1 d2 _ := ⟨g0, g1, hbq, hsq⟩
          have HS1 : Hid (∀ W, PutS w d1 d2 W → Src W (.slice none 0 0) 0 (L1.flatMap dueC)) := fun W _ => .inl ⟨rfl, rfl⟩
          have HS3 : Hid (∀ W, PutS w d1 d2 W → Src W (.slice none 0 0) 0 (L3.flatMap dueC)) := fun W _ => .inl ⟨rfl, rfl⟩
          have Htk : Hid (L1.length = 0) := by show _ = _; rw [hL1]; rfl
          have Hdk : Hid (L3.length = 0) := by show _ = _; rw [hL3]; rfl
          have HL : Hid ([] ++ L1 ++ [(d1, d2)] ++ L3 = ins (d1, d2) []) := by show _ = _; rw [hL1, hL3, Hins.out]; rfl
          have hbk : 0 + 0 ≤ 4096 := by omega
          have hbk1 : 0 + 0 + 1 ≤ 4096 := by omega
          have hbk2 : 0 + 0 + 1 + 0 ≤ 4096 := by omega
          have hltc : w.heap.size < wc.heap.size := hsq
          clear g0 g1 hbq hsq hL1 hL3 Hins hm
          go_wp2_with fail
          go_region_held3 (fun w' => w'.cell? ⟨w.heap.size, 0, none⟩ = some (.int .i64 d1) ∧ w'.cell? ⟨w.heap.size, 1, none⟩ = some (.int .i64 d2) ∧ PutS w d1 d2 w') ((refine PutS.three ?_; (focus repeat (first | (with_reducible assumption) | (with_reducible refine PutS.alloc ?_ _) | (with_reducible refine PutS.drew ?_)))))
            (first | ((refine step_put (w0 := w) (d1 := d1) (d2 := d2) ?_ (.tmp 42) (.tmp 45) ?_ 0 0 [] L1 (Value.slice (some ⟨wc.heap.size, 0, none⟩) 0 0) (Value.slice none 0 0) ?_ ?_ ?_ ?_ ?_ Htk.out hbk ?_; rfl; rfl; rfl; rfl; (focus repeat (first | (with_reducible assumption) | (with_reducible refine PutS.alloc ?_ _) | (with_reducible refine PutS.drew ?_))); (focus repeat (first | (with_reducible assumption) | ((with_reducible refine own_lit2 _ _ _ _ ?_ ?_); rfl; assumption) | ((with_reducible refine own_lit _ _ _ ?_ ?_); (first | rfl | (simp; done)); (first | omega | (simp; omega))) | (with_reducible refine World.ownsRow.drew ?_) | (with_reducible refine World.ownsRow.alloc ?_ _))); (refine HS1.out _ ?_; (focus repeat (first | (with_reducible assumption) | (with_reducible refine PutS.alloc ?_ _) | (with_reducible refine PutS.drew ?_)))); intro v1 w1 hown1 hP1 hgrow1)) | ((refine step_put (w0 := w) (d1 := d1) (d2 := d2) ?_ (.tmp 42) (.tmp 45) ?_ 0 0 [] L1 (Value.slice (some ⟨wc.heap.size + 1, 0, none⟩) 0 0) (Value.slice none 0 0) ?_ ?_ ?_ ?_ ?_ Htk.out hbk ?_; rfl; rfl; rfl; rfl; (focus repeat (first | (with_reducible assumption) | (with_reducible refine PutS.alloc ?_ _) | (with_reducible refine PutS.drew ?_))); (focus repeat (first | (with_reducible assumption) | ((with_reducible refine own_lit2 _ _ _ _ ?_ ?_); rfl; assumption) | ((with_reducible refine own_lit _ _ _ ?_ ?_); (first | rfl | (simp; done)); (first | omega | (simp; omega))) | (with_reducible refine World.ownsRow.drew ?_) | (with_reducible refine World.ownsRow.alloc ?_ _))); (refine HS1.out _ ?_; (focus repeat (first | (with_reducible assumption) | (with_reducible refine PutS.alloc ?_ _) | (with_reducible refine PutS.drew ?_)))); intro v1 w1 hown1 hP1 hgrow1)) | ((refine step_put (w0 := w) (d1 := d1) (d2 := d2) ?_ (.tmp 46) (.tmp 48) ?_ (0 + 0) 1 ([] ++ L1) [(d1, d2)] v1 (Value.slice (some ⟨w1.heap.size, 0, none⟩) 1 1) ?_ ?_ ?_ ?_ ?_ rfl hbk1 ?_; rfl; rfl; rfl; rfl; (focus repeat (first | (with_reducible assumption) | (with_reducible refine PutS.alloc ?_ _) | (with_reducible refine PutS.drew ?_))); (focus repeat (first | (with_reducible assumption) | ((with_reducible refine own_lit2 _ _ _ _ ?_ ?_); rfl; assumption) | ((with_reducible refine own_lit _ _ _ ?_ ?_); (first | rfl | (simp; done)); (first | omega | (simp; omega))) | (with_reducible refine World.ownsRow.drew ?_) | (with_reducible refine World.ownsRow.alloc ?_ _))); (focus repeat (first | ((with_reducible refine src_new _ d1 d2 _ ?_); (first | rfl | (simp; done))) | (with_reducible refine src_drew ?_) | ((with_reducible refine src_alloc ?_ ?_ _); rotate_left; (focus (first | (simp; done) | (simp; omega))); rotate_left) | ((with_reducible refine src_far ?_ hgrow1 ?_ ?_); rotate_left; (focus (first | (simp; done) | (simp; omega))); (focus (simp [Value.ownBlock])); rotate_left))); intro v2 w2 hown2 hP2 hgrow2)) | ((refine step_put (w0 := w) (d1 := d1) (d2 := d2) ?_ (.tmp 46) (.tmp 48) ?_ (0 + 0) 1 ([] ++ L1) [(d1, d2)] v1 (Value.slice (some ⟨wc.heap.size, 0, none⟩) 1 1) ?_ ?_ ?_ ?_ ?_ rfl hbk1 ?_; rfl; rfl; rfl; rfl; (focus repeat (first | (with_reducible assumption) | (with_reducible refine PutS.alloc ?_ _) | (with_reducible refine PutS.drew ?_))); (focus repeat (first | (with_reducible assumption) | ((with_reducible refine own_lit2 _ _ _ _ ?_ ?_); rfl; assumption) | ((with_reducible refine own_lit _ _ _ ?_ ?_); (first | rfl | (simp; done)); (first | omega | (simp; omega))) | (with_reducible refine World.ownsRow.drew ?_) | (with_reducible refine World.ownsRow.alloc ?_ _))); (focus repeat (first | ((with_reducible refine src_new _ d1 d2 _ ?_); (first | rfl | (simp; done))) | (with_reducible refine src_drew ?_) | ((with_reducible refine src_alloc ?_ ?_ _); rotate_left; (focus (first | (simp; done) | (simp; omega))); rotate_left) | ((with_reducible refine src_far ?_ hgrow1 ?_ ?_); rotate_left; (focus (first | (simp; done) | (simp; omega))); (focus (simp [Value.ownBlock])); rotate_left))); intro v2 w2 hown2 hP2 hgrow2)) | ((refine step_put (w0 := w) (d1 := d1) (d2 := d2) ?_ (.tmp 46) (.tmp 48) ?_ (0 + 0) 1 ([] ++ L1) [(d1, d2)] v1 (Value.slice (some ⟨wc.heap.size + 1, 0, none⟩) 1 1) ?_ ?_ ?_ ?_ ?_ rfl hbk1 ?_; rfl; rfl; rfl; rfl; (focus repeat (first | (with_reducible assumption) | (with_reducible refine PutS.alloc ?_ _) | (with_reducible refine PutS.drew ?_))); (focus repeat (first | (with_reducible assumption) | ((with_reducible refine own_lit2 _ _ _ _ ?_ ?_); rfl; assumption) | ((with_reducible refine own_lit _ _ _ ?_ ?_); (first | rfl | (simp; done)); (first | omega | (simp; omega))) | (with_reducible refine World.ownsRow.drew ?_) | (with_reducible refine World.ownsRow.alloc ?_ _))); (focus repeat (first | ((with_reducible refine src_new _ d1 d2 _ ?_); (first | rfl | (simp; done))) | (with_reducible refine src_drew ?_) | ((with_reducible refine src_alloc ?_ ?_ _); rotate_left; (focus (first | (simp; done) | (simp; omega))); rotate_left) | ((with_reducible refine src_far ?_ hgrow1 ?_ ?_); rotate_left; (focus (first | (simp; done) | (simp; omega))); (focus (simp [Value.ownBlock])); rotate_left))); intro v2 w2 hown2 hP2 hgrow2)) | ((refine step_put (w0 := w) (d1 := d1) (d2 := d2) ?_ (.tmp 49) (.tmp 52) ?_ (0 + 0 + 1) 0 ([] ++ L1 ++ [(d1, d2)]) L3 v2 (Value.slice none 0 0) ?_ ?_ ?_ ?_ ?_ Hdk.out hbk2 ?_; rfl; rfl; rfl; rfl; (focus repeat (first | (with_reducible assumption) | (with_reducible refine PutS.alloc ?_ _) | (with_reducible refine PutS.drew ?_))); (focus repeat (first | (with_reducible assumption) | ((with_reducible refine own_lit2 _ _ _ _ ?_ ?_); rfl; assumption) | ((with_reducible refine own_lit _ _ _ ?_ ?_); (first | rfl | (simp; done)); (first | omega | (simp; omega))) | (with_reducible refine World.ownsRow.drew ?_) | (with_reducible refine World.ownsRow.alloc ?_ _))); (refine HS3.out _ ?_; (focus repeat (first | (with_reducible assumption) | (with_reducible refine PutS.alloc ?_ _) | (with_reducible refine PutS.drew ?_)))); intro v3 w3 hown3 hP3 hgrow3)))
          all_goals go_wp2_with fail
          all_goals
            go_ret
            refine ⟨v3, rfl, ?_, hP3.bel⟩
            rw [HL.out] at hown3
            exact ownsRow_base (by simpa using hown3) (by omega)
        · have hkc : (k : Int) ≤ (c : Int) := by omega
          have hk0 : (0 : Int) ≤ (k : Int) := by omega
          have hkn : (k : Int) ≤ (n : Int) := by omega
          have hncI : (n : Int) ≤ (c : Int) := by omega
          obtain ⟨L1, hL1⟩ : ∃ L, L = l.take k := ⟨_, rfl⟩
          obtain ⟨L3, hL3⟩ : ∃ L, L = l.drop k := ⟨_, rfl⟩
          have hP : PutS w d1 d2 _ := ⟨g0, g1, hbq, hsq⟩
          have HS1 : Hid (∀ W, PutS w d1 d2 W → Src W (.slice (some ⟨b, off, none⟩) k c) k (L1.flatMap dueC)) := fun W hW => by rw [hL1]; exact src_take HE.out hW.bel hk
          have HS3 : Hid (∀ W, PutS w d1 d2 W → Src W (.slice (if c = k then some ⟨b, off, none⟩ else some ⟨b, off + k * 2, none⟩) (n - k) (c - k)) (n - k) (L3.flatMap dueC)) := fun W hW => by rw [hL3]; exact src_drop HE.out hW.bel hk hnc
          have Htk : Hid (L1.length = k) := by show _ = _; rw [hL1, List.length_take]; omega
          have Hdk : Hid (L3.length = n - k) := by show _ = _; rw [hL3, List.length_drop]; omega
          have HL : Hid ([] ++ L1 ++ [(d1, d2)] ++ L3 = ins (d1, d2) l) := by show _ = _; rw [hL1, hL3, Hins.out]; simp
          have hbk : 0 + k ≤ 4096 := by omega
          have hbk1 : 0 + k + 1 ≤ 4096 := by omega
          have hbk2 : 0 + k + 1 + (n - k) ≤ 4096 := by omega
          have hltc : w.heap.size < wc.heap.size := hsq
          clear g0 g1 hbq hsq hL1 hL3 Hins hm
          go_wp2_with fail
          go_region_held3 (fun w' => w'.cell? ⟨w.heap.size, 0, none⟩ = some (.int .i64 d1) ∧ w'.cell? ⟨w.heap.size, 1, none⟩ = some (.int .i64 d2) ∧ PutS w d1 d2 w') ((refine PutS.three ?_; (focus repeat (first | (with_reducible assumption) | (with_reducible refine PutS.alloc ?_ _) | (with_reducible refine PutS.drew ?_)))))
            (first | ((refine step_put (w0 := w) (d1 := d1) (d2 := d2) ?_ (.tmp 42) (.tmp 45) ?_ 0 k [] L1 (Value.slice (some ⟨wc.heap.size, 0, none⟩) 0 0) (Value.slice (some ⟨b, off, none⟩) k c) ?_ ?_ ?_ ?_ ?_ Htk.out hbk ?_; rfl; rfl; rfl; rfl; (focus repeat (first | (with_reducible assumption) | (with_reducible refine PutS.alloc ?_ _) | (with_reducible refine PutS.drew ?_))); (focus repeat (first | (with_reducible assumption) | ((with_reducible refine own_lit2 _ _ _ _ ?_ ?_); rfl; assumption) | ((with_reducible refine own_lit _ _ _ ?_ ?_); (first | rfl | (simp; done)); (first | omega | (simp; omega))) | (with_reducible refine World.ownsRow.drew ?_) | (with_reducible refine World.ownsRow.alloc ?_ _))); (refine HS1.out _ ?_; (focus repeat (first | (with_reducible assumption) | (with_reducible refine PutS.alloc ?_ _) | (with_reducible refine PutS.drew ?_)))); intro v1 w1 hown1 hP1 hgrow1)) | ((refine step_put (w0 := w) (d1 := d1) (d2 := d2) ?_ (.tmp 42) (.tmp 45) ?_ 0 k [] L1 (Value.slice (some ⟨wc.heap.size + 1, 0, none⟩) 0 0) (Value.slice (some ⟨b, off, none⟩) k c) ?_ ?_ ?_ ?_ ?_ Htk.out hbk ?_; rfl; rfl; rfl; rfl; (focus repeat (first | (with_reducible assumption) | (with_reducible refine PutS.alloc ?_ _) | (with_reducible refine PutS.drew ?_))); (focus repeat (first | (with_reducible assumption) | ((with_reducible refine own_lit2 _ _ _ _ ?_ ?_); rfl; assumption) | ((with_reducible refine own_lit _ _ _ ?_ ?_); (first | rfl | (simp; done)); (first | omega | (simp; omega))) | (with_reducible refine World.ownsRow.drew ?_) | (with_reducible refine World.ownsRow.alloc ?_ _))); (refine HS1.out _ ?_; (focus repeat (first | (with_reducible assumption) | (with_reducible refine PutS.alloc ?_ _) | (with_reducible refine PutS.drew ?_)))); intro v1 w1 hown1 hP1 hgrow1)) | ((refine step_put (w0 := w) (d1 := d1) (d2 := d2) ?_ (.tmp 46) (.tmp 48) ?_ (0 + k) 1 ([] ++ L1) [(d1, d2)] v1 (Value.slice (some ⟨w1.heap.size, 0, none⟩) 1 1) ?_ ?_ ?_ ?_ ?_ rfl hbk1 ?_; rfl; rfl; rfl; rfl; (focus repeat (first | (with_reducible assumption) | (with_reducible refine PutS.alloc ?_ _) | (with_reducible refine PutS.drew ?_))); (focus repeat (first | (with_reducible assumption) | ((with_reducible refine own_lit2 _ _ _ _ ?_ ?_); rfl; assumption) | ((with_reducible refine own_lit _ _ _ ?_ ?_); (first | rfl | (simp; done)); (first | omega | (simp; omega))) | (with_reducible refine World.ownsRow.drew ?_) | (with_reducible refine World.ownsRow.alloc ?_ _))); (focus repeat (first | ((with_reducible refine src_new _ d1 d2 _ ?_); (first | rfl | (simp; done))) | (with_reducible refine src_drew ?_) | ((with_reducible refine src_alloc ?_ ?_ _); rotate_left; (focus (first | (simp; done) | (simp; omega))); rotate_left) | ((with_reducible refine src_far ?_ hgrow1 ?_ ?_); rotate_left; (focus (first | (simp; done) | (simp; omega))); (focus (simp [Value.ownBlock])); rotate_left))); intro v2 w2 hown2 hP2 hgrow2)) | ((refine step_put (w0 := w) (d1 := d1) (d2 := d2) ?_ (.tmp 46) (.tmp 48) ?_ (0 + k) 1 ([] ++ L1) [(d1, d2)] v1 (Value.slice (some ⟨wc.heap.size, 0, none⟩) 1 1) ?_ ?_ ?_ ?_ ?_ rfl hbk1 ?_; rfl; rfl; rfl; rfl; (focus repeat (first | (with_reducible assumption) | (with_reducible refine PutS.alloc ?_ _) | (with_reducible refine PutS.drew ?_))); (focus repeat (first | (with_reducible assumption) | ((with_reducible refine own_lit2 _ _ _ _ ?_ ?_); rfl; assumption) | ((with_reducible refine own_lit _ _ _ ?_ ?_); (first | rfl | (simp; done)); (first | omega | (simp; omega))) | (with_reducible refine World.ownsRow.drew ?_) | (with_reducible refine World.ownsRow.alloc ?_ _))); (focus repeat (first | ((with_reducible refine src_new _ d1 d2 _ ?_); (first | rfl | (simp; done))) | (with_reducible refine src_drew ?_) | ((with_reducible refine src_alloc ?_ ?_ _); rotate_left; (focus (first | (simp; done) | (simp; omega))); rotate_left) | ((with_reducible refine src_far ?_ hgrow1 ?_ ?_); rotate_left; (focus (first | (simp; done) | (simp; omega))); (focus (simp [Value.ownBlock])); rotate_left))); intro v2 w2 hown2 hP2 hgrow2)) | ((refine step_put (w0 := w) (d1 := d1) (d2 := d2) ?_ (.tmp 46) (.tmp 48) ?_ (0 + k) 1 ([] ++ L1) [(d1, d2)] v1 (Value.slice (some ⟨wc.heap.size + 1, 0, none⟩) 1 1) ?_ ?_ ?_ ?_ ?_ rfl hbk1 ?_; rfl; rfl; rfl; rfl; (focus repeat (first | (with_reducible assumption) | (with_reducible refine PutS.alloc ?_ _) | (with_reducible refine PutS.drew ?_))); (focus repeat (first | (with_reducible assumption) | ((with_reducible refine own_lit2 _ _ _ _ ?_ ?_); rfl; assumption) | ((with_reducible refine own_lit _ _ _ ?_ ?_); (first | rfl | (simp; done)); (first | omega | (simp; omega))) | (with_reducible refine World.ownsRow.drew ?_) | (with_reducible refine World.ownsRow.alloc ?_ _))); (focus repeat (first | ((with_reducible refine src_new _ d1 d2 _ ?_); (first | rfl | (simp; done))) | (with_reducible refine src_drew ?_) | ((with_reducible refine src_alloc ?_ ?_ _); rotate_left; (focus (first | (simp; done) | (simp; omega))); rotate_left) | ((with_reducible refine src_far ?_ hgrow1 ?_ ?_); rotate_left; (focus (first | (simp; done) | (simp; omega))); (focus (simp [Value.ownBlock])); rotate_left))); intro v2 w2 hown2 hP2 hgrow2)) | ((refine step_put (w0 := w) (d1 := d1) (d2 := d2) ?_ (.tmp 49) (.tmp 52) ?_ (0 + k + 1) (n - k) ([] ++ L1 ++ [(d1, d2)]) L3 v2 (Value.slice (if c = k then some ⟨b, off, none⟩ else some ⟨b, off + k * 2, none⟩) (n - k) (c - k)) ?_ ?_ ?_ ?_ ?_ Hdk.out hbk2 ?_; rfl; rfl; rfl; rfl; (focus repeat (first | (with_reducible assumption) | (with_reducible refine PutS.alloc ?_ _) | (with_reducible refine PutS.drew ?_))); (focus repeat (first | (with_reducible assumption) | ((with_reducible refine own_lit2 _ _ _ _ ?_ ?_); rfl; assumption) | ((with_reducible refine own_lit _ _ _ ?_ ?_); (first | rfl | (simp; done)); (first | omega | (simp; omega))) | (with_reducible refine World.ownsRow.drew ?_) | (with_reducible refine World.ownsRow.alloc ?_ _))); (refine HS3.out _ ?_; (focus repeat (first | (with_reducible assumption) | (with_reducible refine PutS.alloc ?_ _) | (with_reducible refine PutS.drew ?_)))); intro v3 w3 hown3 hP3 hgrow3)))
          all_goals go_wp2_with fail
          all_goals
            go_ret
            refine ⟨v3, rfl, ?_, hP3.bel⟩
            rw [HL.out, show 0 + k + 1 + (n - k) = n + 1 by omega] at hown3
            exact ownsRow_base hown3 (by omega)
end Go.Proofs.Ythmbbbdnfgefbaa
