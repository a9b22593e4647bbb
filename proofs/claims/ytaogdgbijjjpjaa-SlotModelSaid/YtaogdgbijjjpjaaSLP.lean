/- SlotLatest: the plain law; what the loop keeps. -/
import Derived.Test.YtaogdgbijjjpjaaSL9
import Derived.Test.YtaogdgbijjjpjaaSGP
import Derived.Deep.AppendLies
namespace Go.Proofs.Ytaogdgbijjjpjaa
open Go.RowKit
set_option linter.unusedVariables false

/-- An act: what to do, id, group, length, from, to. -/
abbrev A6T := Int × Int × Int × Int × Int × Int
def q6 (x : A6T) : List Value := [.int .i64 x.1, .int .i64 x.2.1, .int .i64 x.2.2.1, .int .i64 x.2.2.2.1, .int .i64 x.2.2.2.2.1, .int .i64 x.2.2.2.2.2]
theorem q6_length (x : A6T) : (q6 x).length = 6 := rfl
/-- The slot of an act that was reserved at p. -/
def zs (z : A6T × Int) : Q := (z.1.2.1, z.1.2.2.1, z.2, z.2 + z.1.2.2.2.1)
def okZ (z : A6T × Int) : Prop := ¬ (z.1.2.2.2.1 < 1 ∨ 1048576 < z.1.2.2.2.1 ∨ z.1.2.2.2.2.1 < 0 ∨ z.1.2.2.2.2.2 < z.1.2.2.2.2.1 ∨ 1099511627776 < z.1.2.2.2.2.2) ∧ z.1.2.2.2.2.1 ≤ z.2 ∧ z.2 + z.1.2.2.2.1 ≤ z.1.2.2.2.2.2
theorem meets_comm (x y : Q) : meets x y = meets y x := by
  unfold meets
  rw [Bool.and_comm (decide (x.2.2.1 < y.2.2.2)), Bool.beq_comm]
theorem meets_no {x s : Q} : meets x s = false ↔ ¬ (x.2.1 = s.2.1 ∧ x.2.2.1 < s.2.2.2 ∧ s.2.2.1 < x.2.2.2) := by
  rw [← Bool.not_eq_true]
  refine not_congr ?_
  unfold meets
  simp only [Bool.and_eq_true, decide_eq_true_eq, beq_iff_eq]
theorem res_cases {room : Nat} {l l' : List Q} {id g len f t x y : Int} (h : resM room l id g len f t = (x, y, l')) :
    (y ≠ 0 ∧ l' = l) ∨ (y = 0 ∧ ¬ (len < 1 ∨ 1048576 < len ∨ f < 0 ∨ t < f ∨ 1099511627776 < t) ∧ okP g len f t l x = true ∧ l' = l ++ [(id, g, x, x + len)]) := by
  unfold resM at h
  split at h
  · simp only [Prod.mk.injEq] at h; exact .inl ⟨by omega, h.2.2.symm⟩
  · rename_i hb
    split at h
    · simp only [Prod.mk.injEq] at h; exact .inl ⟨by omega, h.2.2.symm⟩
    · split at h
      · simp only [Prod.mk.injEq] at h; exact .inl ⟨by omega, h.2.2.symm⟩
      · split at h
        · rename_i h4
          simp only [Prod.mk.injEq] at h
          obtain ⟨rfl, rfl, rfl⟩ := h
          exact .inr ⟨rfl, hb, latM_in (Prod.ext rfl h4), rfl⟩
        · simp only [Prod.mk.injEq] at h; exact .inl ⟨by omega, h.2.2.symm⟩
def Apart (l : List Q) : Prop := l.Pairwise fun x y => meets x y = false
theorem Apart.more {l : List Q} {id g len f t p : Int} (h : Apart l) (hok : okP g len f t l p = true) : Apart (l ++ [(id, g, p, p + len)]) := by
  unfold Apart
  rw [List.pairwise_append]
  refine ⟨h, by simp, fun x hx y hy => ?_⟩
  simp only [List.mem_singleton] at hy
  subst hy
  exact meets_no.2 ((okP_iff.1 hok).2.2 x hx)
theorem Apart.perm {l l' : List Q} (h : Apart l) (hp : l'.Perm l) : Apart l' :=
  (hp.pairwise_iff (R := fun x y => meets x y = false) (fun {x y} h => by rw [meets_comm]; exact h)).2 h
theorem Apart.at_ {l : List Q} (h : Apart l) (i : Nat) (hi : i < l.length) : apM (l.take i) l[i] = true := by
  refine apM_of fun j hj => ?_
  have hji : j < i := by rw [List.length_take] at hj; omega
  rw [List.getElem_take]
  exact List.pairwise_iff_getElem.1 h j i (by omega) hi hji
theorem Apart.two {l : List Q} (h : Apart l) {x y : Q} (hx : x ∈ l) (hy : y ∈ l) (hne : x.1 ≠ y.1) : meets x y = false := by
  obtain ⟨i, hi, rfl⟩ := List.mem_iff_getElem.1 hx
  obtain ⟨j, hj, rfl⟩ := List.mem_iff_getElem.1 hy
  rcases Nat.lt_trichotomy i j with h1 | h1 | h1
  · exact List.pairwise_iff_getElem.1 h i j hi hj h1
  · subst h1; exact absurd rfl hne
  · rw [meets_comm]; exact List.pairwise_iff_getElem.1 h j i hj hi h1
theorem srt_from {l : List Q} (h : SrtS l) (i : Nat) (hi : i + 1 < l.length) : l[i].2.2.1 ≤ l[i + 1].2.2.1 := by
  have := List.pairwise_iff_getElem.1 h i (i + 1) (by omega) hi (by omega)
  rw [ltS_not] at this
  omega
theorem filt_len {l : List Q} {d : Q} (hn : (l.map (·.1)).Nodup) (hd : d ∈ l) : (l.filter fun x => !(x.1 == d.1)).length + 1 = l.length := by
  induction l with
  | nil => simp at hd
  | cons x l ih =>
    rw [List.map_cons, List.nodup_cons] at hn
    by_cases hx : x.1 = d.1
    · have hf : (l.filter fun y => !(y.1 == d.1)) = l := List.filter_eq_self.2 fun y hy => by
        have : y.1 ≠ d.1 := fun e => hn.1 (by rw [hx, ← e]; exact List.mem_map.2 ⟨y, hy, rfl⟩)
        simpa using this
      rw [List.filter_cons, if_neg (by simp [hx]), hf, List.length_cons]
    · have hd' : d ∈ l := by
        rcases List.mem_cons.1 hd with rfl | h
        · exact absurd rfl hx
        · exact h
      rw [List.filter_cons, if_pos (by simpa using hx), List.length_cons, List.length_cons, ih hn.2 hd']
/-- What is freed can be reserved again, at that place or later. -/
theorem again {Z : List (A6T × Int)} (hb : Bd (Z.map zs)) (hl : Z.length ≤ 256) (hok : ∀ z ∈ Z, okZ z) (hap : Apart (Z.map zs)) {z : A6T × Int} (hz : z ∈ Z) :
    ∃ p l', resM 256 ((Z.map zs).filter fun x => !(x.1 == z.1.2.1)) z.1.2.1 z.1.2.2.1 z.1.2.2.2.1 z.1.2.2.2.2.1 z.1.2.2.2.2.2 = (p, 0, l') ∧ z.2 ≤ p ∧ l'.length = Z.length ∧ ((Z.map zs).any fun x => x.1 == z.1.2.1) = true := by
  have hzm : zs z ∈ Z.map zs := List.mem_map.2 ⟨z, hz, rfl⟩
  have hlen := filt_len hb.n hzm
  rw [List.length_map] at hlen
  obtain ⟨h1, h2, h3⟩ := hok z hz
  have hP : okP z.1.2.2.1 z.1.2.2.2.1 z.1.2.2.2.2.1 z.1.2.2.2.2.2 ((Z.map zs).filter fun x => !(x.1 == z.1.2.1)) z.2 = true := okP_iff.2 ⟨h2, h3, fun s hs => by
    obtain ⟨hs1, hs2⟩ := List.mem_filter.1 hs
    have hne : s.1 ≠ (zs z).1 := by show s.1 ≠ z.1.2.1; simpa using hs2
    exact meets_no.1 (hap.two hs1 hzm hne)⟩
  cases e : latM z.1.2.2.1 z.1.2.2.2.1 z.1.2.2.2.2.1 z.1.2.2.2.2.2 ((Z.map zs).filter fun x => !(x.1 == z.1.2.1)) with
  | mk p b =>
    cases b
    · rw [lat_no e] at hP; cases hP
    · refine ⟨p, _, resM_ok h1 (List.any_eq_false.2 fun s hs => by simpa using (List.mem_filter.1 hs).2) (by have : (zs z).1 = z.1.2.1 := rfl; rw [this] at hlen; omega) e, lat_max e z.2 hP, ?_, List.any_eq_true.2 ⟨zs z, hzm, by simp [zs]⟩⟩
      have : (zs z).1 = z.1.2.1 := rfl
      rw [this] at hlen
      rw [List.length_append, List.length_singleton, hlen]

/-- Behind an append to a row of one's own: table and other rows are as they were. -/
theorem grow_row {w0 w W w6 : World} {p room gg n' cap : Nat} {F : Nat → Prop} {l : List Q} {v : Value} {n e size : Nat} {xs : List Value} (h : SO w0 w p room F l) (hW : Below w.heap.size w W) (ho : w.ownsRow w0.heap.size e size v n xs)
    (hF : ∀ k, v.ownBlock = some k → ¬ F k) (hg : W.grownBy w6 v.ownBlock) (hat : v.ownBlock = some gg ∨ gg = W.heap.size) :
    SO w0 w6 p room F l ∧ (∀ k, (Value.slice (some ⟨gg, 0, none⟩) n' cap).ownBlock = some k → ¬ F k) ∧
      (∀ (e' size' n2 : Nat) (v' : Value) (xs' : List Value), w.ownsRow w0.heap.size e' size' v' n2 xs' → (∀ k, v.ownBlock = some k → v'.ownBlock ≠ some k) → w6.ownsRow w0.heap.size e' size' v' n2 xs' ∧ ∀ k, (Value.slice (some ⟨gg, 0, none⟩) n' cap).ownBlock = some k → v'.ownBlock ≠ some k) := by
  have hfg : Fr (fun j => v.ownBlock = some j) w w6 := Fr.grown ((Fr.of_below (S := fun _ => False) hW).mono fun _ _ h => h.elim) hg (fun g hg _ => hg)
  have hWs := hW.size
  refine ⟨h.keep hfg (fun k hk e => hF k e hk) (h.bel.trans (hfg.below (fun k _ hk => ownsRow_block ho k hk) h.bel.size)), ?_, ?_⟩
  · intro k hk hFk
    simp only [Value.ownBlock, Option.some.injEq] at hk
    subst hk
    rcases hat with e | e
    · exact hF _ e hFk
    · have := (h.a.flt _ hFk).1; omega
  · intro e' size' n2 v' xs' ho' hne
    refine ⟨ownsRow_keep ho' fun k hk => hfg.block k (ownsRow_lt ho' k hk) (fun hv => hne k hv hk), ?_⟩
    intro k hk hk'
    simp only [Value.ownBlock, Option.some.injEq] at hk
    subst hk
    rcases hat with e | e
    · exact hne _ e hk'
    · have := ownsRow_lt ho' _ hk'; omega

/-- What the loop keeps: the table, the acts that were let in, and their places. -/
structure LX (w0 w : World) (p : Nat) (F : Nat → Prop) (Z : List (A6T × Int)) (sd sa : Value) : Prop where
  o : SO w0 w p 256 F (Z.map zs)
  d : w.ownsRow w0.heap.size 57 6 sd Z.length (Z.flatMap fun z => q6 z.1)
  a : w.ownsRow w0.heap.size 3 1 sa Z.length (Z.flatMap fun z => [.int .i64 z.2])
  dF : ∀ k, sd.ownBlock = some k → ¬ F k
  aF : ∀ k, sa.ownBlock = some k → ¬ F k
  ad : ∀ k, sd.ownBlock = some k → sa.ownBlock ≠ some k
  ok : ∀ z ∈ Z, okZ z
  ap : Apart (Z.map zs)
theorem LX.nil {w0 w : World} {p : Nat} {F : Nat → Prop} (h : SO w0 w p 256 F []) : LX w0 w p F [] (.slice none 0 0) (.slice none 0 0) :=
  ⟨h, World.ownsRow_nil _ _ _ _, World.ownsRow_nil _ _ _ _, by simp [Value.ownBlock], by simp [Value.ownBlock], by simp [Value.ownBlock], by simp, by simp [Apart]⟩
theorem LX.below {w0 w w' : World} {p : Nat} {F : Nat → Prop} {Z : List (A6T × Int)} {sd sa : Value} (h : LX w0 w p F Z sd sa) (hb : Below w.heap.size w w') : LX w0 w' p F Z sd sa :=
  ⟨h.o.below hb, ownsRow_keep h.d fun k hk => hb.block k (ownsRow_lt h.d k hk), ownsRow_keep h.a fun k hk => hb.block k (ownsRow_lt h.a k hk), h.dF, h.aF, h.ad, h.ok, h.ap⟩
/-- Behind Reserve: rows that aren't the table's. -/
theorem rows_keep {w w' : World} {B e size n : Nat} {v : Value} {xs : List Value} {F F' : Nat → Prop} (ho : w.ownsRow B e size v n xs) (hF : ∀ k, v.ownBlock = some k → ¬ F k) (hf : Fr F w w') (hF' : ∀ j, F' j → F j ∨ w.heap.size ≤ j) :
    w'.ownsRow B e size v n xs ∧ ∀ k, v.ownBlock = some k → ¬ F' k :=
  ⟨ownsRow_keep ho fun k hk => hf.block k (ownsRow_lt ho k hk) (hF k hk), fun k hk hk' => by
    rcases hF' k hk' with h | h
    · exact hF k hk h
    · have := ownsRow_lt ho k hk; omega⟩
theorem own_d {w : World} {B n c : Nat} {a : Option Addr} {Z : List (A6T × Int)} (h : w.ownsRow B 57 6 (.slice a n c) n (Z.flatMap fun z => q6 z.1)) (hn : n = Z.length) (h0 : 0 < n) :
    ∃ g, a = some ⟨g, 0, none⟩ ∧ ∀ j (hj : j < Z.length), A6 w g (j * 6) Z[j].1 := by
  obtain ⟨g, cap, hv, _, _, _, hc, _⟩ := ownsRow_cells h h0
  simp only [Value.slice.injEq] at hv
  obtain ⟨rfl, _, _⟩ := hv
  refine ⟨g, rfl, fun j hj => ?_⟩
  have key := fun i (hi : i < 6) => flatMap_at (fun z : A6T × Int => q6 z.1) 6 (fun z => q6_length z.1) Z j i hj hi
  refine ⟨hc _ _ ?_, hc _ _ ?_, hc _ _ ?_, hc _ _ ?_, hc _ _ ?_, hc _ _ ?_⟩
  · exact (key 0 (by omega)).trans rfl
  · exact (key 1 (by omega)).trans rfl
  · exact (key 2 (by omega)).trans rfl
  · exact (key 3 (by omega)).trans rfl
  · exact (key 4 (by omega)).trans rfl
  · exact (key 5 (by omega)).trans rfl
theorem A6.below {w W : World} {b o : Nat} {x : A6T} (h : A6 w b o x) (hb : Below w.heap.size w W) : A6 W b o x := by
  have hlt : b < w.heap.size := block_lt h.c0
  exact ⟨(hb.cell (p := ⟨b, o, none⟩) hlt).trans h.c0, (hb.cell (p := ⟨b, o + 1, none⟩) hlt).trans h.c1, (hb.cell (p := ⟨b, o + 2, none⟩) hlt).trans h.c2, (hb.cell (p := ⟨b, o + 3, none⟩) hlt).trans h.c3, (hb.cell (p := ⟨b, o + 4, none⟩) hlt).trans h.c4, (hb.cell (p := ⟨b, o + 5, none⟩) hlt).trans h.c5⟩
theorem A6.fr {w W : World} {b o : Nat} {x : A6T} {F : Nat → Prop} (h : A6 w b o x) (hb : Fr F w W) (hF : ¬ F b) : A6 W b o x := by
  have hlt : b < w.heap.size := block_lt h.c0
  exact ⟨(hb.cell (p := ⟨b, o, none⟩) hlt hF).trans h.c0, (hb.cell (p := ⟨b, o + 1, none⟩) hlt hF).trans h.c1, (hb.cell (p := ⟨b, o + 2, none⟩) hlt hF).trans h.c2, (hb.cell (p := ⟨b, o + 3, none⟩) hlt hF).trans h.c3, (hb.cell (p := ⟨b, o + 4, none⟩) hlt hF).trans h.c4, (hb.cell (p := ⟨b, o + 5, none⟩) hlt hF).trans h.c5⟩
theorem own_a {w : World} {B n c : Nat} {a : Option Addr} {Z : List (A6T × Int)} (h : w.ownsRow B 3 1 (.slice a n c) n (Z.flatMap fun z => [.int .i64 z.2])) (hn : n = Z.length) (h0 : 0 < n) :
    ∃ g, a = some ⟨g, 0, none⟩ ∧ ∀ j (hj : j < Z.length), w.cell? ⟨g, j, none⟩ = some (.int .i64 Z[j].2) := by
  obtain ⟨g, cap, hv, _, _, _, hc, _⟩ := ownsRow_cells h h0
  simp only [Value.slice.injEq] at hv
  obtain ⟨rfl, _, _⟩ := hv
  refine ⟨g, rfl, fun j hj => hc _ _ ?_⟩
  have := flatMap_at (fun z : A6T × Int => [Value.int .i64 z.2]) 1 (fun z => rfl) Z j 0 hj (by omega)
  rw [Nat.mul_one, Nat.add_zero] at this
  exact this.trans rfl
theorem QsIn.take {B n : Nat} {w : World} {a : Option Addr} {l : List Q} (h : QsIn B w a n l) (i : Nat) (hi : i ≤ n) : QsIn B w a i (l.take i) := by
  refine ⟨by rw [List.length_take, h.1]; omega, fun h0 => ?_⟩
  obtain ⟨b, off, e, hb, hc⟩ := h.2 (by omega)
  refine ⟨b, off, e, hb, fun j hj => ?_⟩
  rw [List.getElem_take]
  exact hc j (by rw [List.length_take] at hj; omega)
theorem Try.info57 : (Try.prog.info? 57).map (fun i => (i.zero, i.size, i.bytes)) = some (some (.agg #[.int .i64 0, .int .i64 0, .int .i64 0, .int .i64 0, .int .i64 0, .int .i64 0]), 6, 48) := by kernel_rfl
end Go.Proofs.Ytaogdgbijjjpjaa
