/- SLOTS: the plain law of latest; a table made since w0; same, few, awake. -/
import Derived.Test.YtaogdgbijjjpjaaSL6
import Derived.Test.YtaogdgbijjjpjaaHM
namespace Go.Proofs.Ytaogdgbijjjpjaa
open Go.RowKit
set_option linter.unusedVariables false

/-! plain -/
theorem srtP_mem {len t x : Int} {l : List Q} : x ∈ srtP len t l ↔ x ∈ places len t l := by unfold srtP; exact List.mem_mergeSort
theorem srtP_pair (len t : Int) (l : List Q) : (srtP len t l).Pairwise (fun x y => x ≤ y) := by
  unfold srtP
  have := List.pairwise_mergeSort (le := fun x y : Int => decide (x ≤ y)) (fun a b c h1 h2 => by simp at *; omega) (fun a b => by simp; omega) (places len t l)
  exact this.imp fun h => by simpa using h
theorem find_first {l : List Int} (hl : l.Pairwise fun x y => y ≤ x) {ok : Int → Bool} {p : Int} (h : l.find? ok = some p) : ∀ q ∈ l, ok q = true → q ≤ p := by
  induction l with
  | nil => simp at h
  | cons x l ih =>
    obtain ⟨hx, hl'⟩ := List.pairwise_cons.1 hl
    rw [List.find?_cons] at h
    intro q hq hok
    cases e : ok x
    · rw [e] at h
      rcases List.mem_cons.1 hq with rfl | hq
      · rw [e] at hok; cases hok
      · exact ih hl' h q hq hok
    · rw [e] at h
      simp only [Option.some.injEq] at h
      subst h
      rcases List.mem_cons.1 hq with rfl | hq
      · exact Int.le_refl _
      · exact hx q hq
/-- What latest finds is the greatest place that is free. -/
theorem latM_most {g len f t p : Int} {l : List Q} (h : latM g len f t l = (p, true)) : p ∈ places len t l ∧ okP g len f t l p = true ∧ ∀ q ∈ places len t l, okP g len f t l q = true → q ≤ p := by
  refine ⟨?_, latM_in h, ?_⟩
  · unfold latM at h
    split at h
    · rename_i q hq
      simp only [Prod.mk.injEq, and_true] at h
      subst h
      exact srtP_mem.1 (List.mem_reverse.1 (List.mem_of_find?_eq_some hq))
    · simp at h
  · unfold latM at h
    split at h
    · rename_i q hq
      simp only [Prod.mk.injEq, and_true] at h
      subst h
      intro r hr hok
      exact find_first (List.pairwise_reverse.2 (srtP_pair len t l)) hq r (List.mem_reverse.2 (srtP_mem.2 hr)) hok
    · simp at h
theorem latM_none {g len f t p : Int} {l : List Q} (h : latM g len f t l = (p, false)) : p = 0 ∧ ∀ q ∈ places len t l, okP g len f t l q = false := by
  unfold latM at h
  split at h
  · simp at h
  · rename_i hq
    simp only [Prod.mk.injEq, and_true] at h
    exact ⟨h.symm, fun q hq' => by
      have := List.find?_eq_none.1 hq q (List.mem_reverse.2 (srtP_mem.2 hq'))
      simpa using this⟩
theorem latM_is {g len f t p : Int} {l : List Q} (hp : p ∈ places len t l) (hok : okP g len f t l p = true) (hm : ∀ q ∈ places len t l, okP g len f t l q = true → q ≤ p) : latM g len f t l = (p, true) := by
  cases h : latM g len f t l with
  | mk a b =>
    cases b
    · have := (latM_none h).2 p hp
      rw [hok] at this; cases this
    · obtain ⟨h1, h2, h3⟩ := latM_most h
      have := h3 p hp hok
      have := hm a h1 h2
      congr 1
      omega
theorem latM_not {g len f t : Int} {l : List Q} (hn : ∀ q ∈ places len t l, okP g len f t l q = false) : latM g len f t l = (0, false) := by
  cases h : latM g len f t l with
  | mk a b =>
    cases b
    · rw [(latM_none h).1]
    · obtain ⟨h1, h2, _⟩ := latM_most h
      rw [hn a h1] at h2; cases h2
theorem resM_ok {room : Nat} {l : List Q} {id g len f t p : Int} (hb : ¬ (len < 1 ∨ 1048576 < len ∨ f < 0 ∨ t < f ∨ 1099511627776 < t)) (ha : (l.any fun x => x.1 == id) = false) (hr : l.length ≠ room) (hp : latM g len f t l = (p, true)) :
    resM room l id g len f t = (p, 0, l ++ [(id, g, p, p + len)]) := by
  unfold resM; rw [if_neg hb, ha, if_neg (by simp), if_neg hr, hp, if_pos rfl]
theorem resM_none {room : Nat} {l : List Q} {id g len f t p : Int} (hb : ¬ (len < 1 ∨ 1048576 < len ∨ f < 0 ∨ t < f ∨ 1099511627776 < t)) (ha : (l.any fun x => x.1 == id) = false) (hr : l.length ≠ room) (hp : latM g len f t l = (p, false)) :
    resM room l id g len f t = (0, 4, l) := by
  unfold resM; rw [if_neg hb, ha, if_neg (by simp), if_neg hr, hp, if_neg (by simp)]

/-- What a table holds. -/
structure Bd (l : List Q) : Prop where
  b : ∀ s ∈ l, 0 ≤ s.2.2.1 ∧ s.2.2.1 ≤ 1099511627776
  n : (l.map (·.1)).Nodup
theorem Bd.nil : Bd [] := ⟨by simp, by simp⟩
theorem Bd.res {room : Nat} {l : List Q} (h : Bd l) (id g len f t : Int) : Bd (resM room l id g len f t).2.2 := by
  unfold resM
  split
  · exact h
  · split
    · exact h
    · split
      · exact h
      · split
        · rename_i h1 h2 _ h4
          refine ⟨fun s hs => ?_, ?_⟩
          rotate_left
          · rw [List.map_append, List.nodup_append]
            refine ⟨h.n, by simp, ?_⟩
            intro x hx y hy e
            simp only [List.map_cons, List.map_nil, List.mem_singleton] at hy
            obtain ⟨d, hd, rfl⟩ := List.mem_map.1 hx
            exact h2 (List.any_eq_true.2 ⟨d, hd, by simp [e, hy]⟩)
          rcases List.mem_append.1 hs with hs | hs
          · exact h.b s hs
          · simp only [List.mem_singleton] at hs
            subst hs
            obtain ⟨x, y, _⟩ := okP_bd (latM_in (p := (latM g len f t l).1) (Prod.ext rfl h4))
            simp only
            omega
        · exact h
theorem Bd.filter {l : List Q} (h : Bd l) (p : Q → Bool) : Bd (l.filter p) := ⟨fun s hs => h.b s (List.mem_filter.1 hs).1, (List.Sublist.map _ List.filter_sublist).nodup h.n⟩
theorem res_len {room : Nat} {l : List Q} (h : l.length ≤ room) (id g len f t : Int) : (resM room l id g len f t).2.2.length ≤ room := by
  unfold resM
  split
  · exact h
  · split
    · exact h
    · split
      · exact h
      · rename_i h3
        split
        · simp only [List.length_append, List.length_singleton]; omega
        · exact h

theorem Bd.uniq {l m m' : List Q} (h : Bd l) (hp : m.Perm l) (hs : SrtS m) (hp' : m'.Perm l) (hs' : SrtS m') : m = m' := by
  refine List.Perm.eq_of_pairwise (le := fun x y => ltS y x = false) (fun a b ha hb h1 h2 => ?_) hs hs' (hp.trans hp'.symm)
  rw [ltS_not] at h1 h2
  have hid : a.1 = b.1 := by omega
  have ha' := hp.mem_iff.1 ha
  have hb' := hp'.mem_iff.1 hb
  obtain ⟨i, hi, ei⟩ := List.mem_iff_getElem.1 ha'
  obtain ⟨j, hj, ej⟩ := List.mem_iff_getElem.1 hb'
  have hij : i = j := by
    refine (List.getElem_inj (xs := l.map (·.1)) (i := i) (j := j) (h₀ := by simpa using hi) (h₁ := by simpa using hj) h.n).1 ?_
    rw [List.getElem_map, List.getElem_map, ei, ej, hid]
  subst hij
  rw [← ei, ← ej]

/-- A table that was made since w0. -/
structure SO (w0 w : World) (p room : Nat) (F : Nat → Prop) (l : List Q) : Prop where
  a : HA 59 w0.heap.size w p F l room
  bel : Below w0.heap.size w0 w
  len : l.length ≤ room
  rm : room ≤ 256
  bd : Bd l
section
variable {p room : Nat} {F : Nat → Prop} {l : List Q} {w0 w w' : World}
theorem SO.keep {T : Nat → Prop} (h : SO w0 w p room F l) (hf : Fr T w w') (hT : ∀ k, F k → ¬ T k) (hb : Below w0.heap.size w0 w') : SO w0 w' p room F l := ⟨h.a.keep hf hT, hb, h.len, h.rm, h.bd⟩
theorem SO.below (h : SO w0 w p room F l) (hb : Below w.heap.size w w') : SO w0 w' p room F l := h.keep (T := fun _ => False) (Fr.of_below hb) (by simp) (h.bel.trans (hb.mono h.bel.size))
theorem SO.new (hb : Below w0.heap.size w0 w) (room : Nat) (h1 : 1 ≤ room) (h2 : room ≤ 256) :
    Calls Try.prog 31 #[.int .i64 room] w fun e w' => ∃ p F, e = .returned (.tuple #[.pointer (some ⟨p, 0, none⟩), .int .i64 0]) ∧ SO w0 w' p room F [] ∧ (∀ k, F k → w.heap.size ≤ k) ∧ Below w.heap.size w w' :=
  (snew_good w0.heap.size room w h1 h2 hb.size).mono fun _ _ ⟨⟨p, F, he, hW, hF⟩, hb'⟩ => ⟨p, F, he, ⟨hW, hb.trans (hb'.mono hb.size), Nat.zero_le _, h2, Bd.nil⟩, hF, hb'⟩
theorem SO.reserve {id g len f t x y : Int} {l' : List Q} (h : SO w0 w p room F l) (hE : resM room l id g len f t = (x, y, l')) :
    Calls Try.prog 33 #[.pointer (some ⟨p, 0, none⟩), .int .i64 id, .int .i64 g, .int .i64 len, .int .i64 f, .int .i64 t] w fun e w' => e = .returned (.tuple #[.int .i64 x, .int .i64 y]) ∧ ∃ F', SO w0 w' p room F' l' ∧ (∀ j, F' j → F j ∨ w.heap.size ≤ j) ∧ Fr F w w' := by
  have hl := res_len h.len id g len f t
  have hbd := h.bd.res (room := room) id g len f t
  have := reserve_any h.a h.bel.size (Nat.le_trans h.len h.rm) h.bd.b id g len f t
  rw [hE] at this hl hbd
  refine Calls.mono this ?_
  rintro e w' ⟨rfl, F', hH, hF, hf⟩
  exact ⟨rfl, F', ⟨hH, h.bel.trans (hf.below (fun k _ hk => (h.a.flt k hk).2) h.bel.size), hl, h.rm, hbd⟩, hF, hf⟩
theorem SO.free (h : SO w0 w p room F l) (id : Int) :
    Calls Try.prog 32 #[.pointer (some ⟨p, 0, none⟩), .int .i64 id] w fun e w' => e = .returned (.int .i64 (if (l.any fun x => x.1 == id) = true then 0 else 4)) ∧ SO w0 w' p room F (l.filter fun x => !(x.1 == id)) ∧ Fr F w w' :=
  (sfree_any h.a (by have := h.len; have := h.rm; omega) id).mono fun _ _ ⟨he, hH, hf⟩ => ⟨he, ⟨hH, h.bel.trans (hf.below (fun k _ hk => (h.a.flt k hk).2) h.bel.size), Nat.le_trans (List.length_filter_le _ _) h.len, h.rm, h.bd.filter _⟩, hf⟩
theorem SO.all (h : SO w0 w p room F l) :
    Calls Try.prog 37 #[.pointer (some ⟨p, 0, none⟩)] w fun e w' => ∃ (a : Option Addr) (c : Nat) (l' : List Q), e = .returned (.slice a l'.length c) ∧ l'.Perm l ∧ SrtS l' ∧ w'.ownsRow w.heap.size 59 4 (.slice a l'.length c) l'.length (l'.flatMap qc) ∧ Below w.heap.size w w' :=
  all_any h.a (by have := h.len; have := h.rm; omega)
theorem SO.at_ (h : SO w0 w p room F l) (t : Int) :
    Calls Try.prog 38 #[.pointer (some ⟨p, 0, none⟩), .int .i64 t] w fun e w' => ∃ (a : Option Addr) (c : Nat) (l' : List Q), e = .returned (.slice a (l'.filter fun x => !atOut t x).length c) ∧ l'.Perm l ∧ SrtS l' ∧
      w'.ownsRow w.heap.size 59 4 (.slice a (l'.filter fun x => !atOut t x).length c) (l'.filter fun x => !atOut t x).length ((l'.filter fun x => !atOut t x).flatMap qc) ∧ Below w.heap.size w w' :=
  at_any h.a (by have := h.len; have := h.rm; omega) t
theorem SO.depth (h : SO w0 w p room F l) (t : Int) :
    Calls Try.prog 39 #[.pointer (some ⟨p, 0, none⟩), .int .i64 t] w fun e w' => e = .returned (.int .i64 (l.filter fun x => !atOut t x).length) ∧ Below w.heap.size w w' :=
  depth_any h.a (by have := h.len; have := h.rm; omega) t
end
end Go.Proofs.Ytaogdgbijjjpjaa
