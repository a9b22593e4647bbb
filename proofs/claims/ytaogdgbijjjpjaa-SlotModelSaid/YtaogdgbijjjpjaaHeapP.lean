/- THE PLAIN LAW OF A HEAP: what rises and what sinks leaves a heap; over whatever total order. -/
namespace Go.Proofs.Ytaogdgbijjjpjaa
set_option linter.unusedVariables false

/-- A strict total order, as a Bool. -/
structure Tot {α : Type} (lt : α → α → Bool) : Prop where
  irr : ∀ x, lt x x = false
  tr : ∀ x y z, lt x y = true → lt y z = true → lt x z = true
  tri : ∀ x y, lt x y = false → lt y x = false → x = y

section
variable {α : Type} [Inhabited α] {lt : α → α → Bool}

omit [Inhabited α] in
theorem Tot.asym (T : Tot lt) {x y : α} (h : lt x y = true) : lt y x = false := by
  cases hc : lt y x
  · rfl
  · have := T.tr _ _ _ h hc; rw [T.irr] at this; cases this
omit [Inhabited α] in
/-- x is not above y: 'lt y x = false'. -/
theorem Tot.le_tr (T : Tot lt) {x y z : α} (h1 : lt y x = false) (h2 : lt z y = false) : lt z x = false := by
  cases hc : lt z x
  · rfl
  · cases hxy : lt x y
    · have := T.tri _ _ hxy h1; subst this; rw [hc] at h2; cases h2
    · have := T.tr _ _ _ hc hxy; rw [this] at h2; cases h2

def at' (l : List α) (i : Nat) : α := l.getD i default
theorem at_eq (l : List α) (i : Nat) (h : i < l.length) : at' l i = l[i] := by simp [at', h]
theorem at_set (l : List α) (i j : Nat) (x : α) (h : i < l.length) : at' (l.set i x) j = if j = i then x else at' l j := by
  unfold at'
  by_cases e : j = i
  · subst e; simp [h]
  · rw [if_neg e]
    simp only [List.getD_eq_getElem?_getD]
    rw [List.getElem?_set_ne (fun h => e h.symm)]
theorem at_mem (l : List α) (i : Nat) (h : i < l.length) : at' l i ∈ l := by rw [at_eq l i h]; exact List.getElem_mem h
theorem at_take (l : List α) (n k : Nat) (h : k < n) : at' (l.take n) k = at' l k := by
  unfold at'
  simp only [List.getD_eq_getElem?_getD]
  rw [List.getElem?_take_of_lt h]
theorem at_append_left (l m : List α) (k : Nat) (h : k < l.length) : at' (l ++ m) k = at' l k := by
  unfold at'
  simp only [List.getD_eq_getElem?_getD]
  rw [List.getElem?_append_left h]

def swp (l : List α) (i j : Nat) : List α := (l.set i (at' l j)).set j (at' l i)
theorem swp_length (l : List α) (i j : Nat) : (swp l i j).length = l.length := by simp [swp]
theorem at_swp (l : List α) (i j k : Nat) (hi : i < l.length) (hj : j < l.length) : at' (swp l i j) k = if k = j then at' l i else if k = i then at' l j else at' l k := by
  unfold swp
  rw [at_set _ _ _ _ (by simpa using hj), at_set _ _ _ _ hi]
theorem swp_perm (l : List α) (i j : Nat) (hi : i < l.length) (hj : j < l.length) : (swp l i j).Perm l := by
  have h := Array.swap_perm (xs := l.toArray) (i := i) (j := j) (by simpa using hi) (by simpa using hj)
  have e : (l.toArray.swap i j (by simpa using hi) (by simpa using hj)).toList = swp l i j := by
    simp only [Array.swap, swp, at_eq l i hi, at_eq l j hj]
    simp
  have h2 := h.toList
  rw [e] at h2
  exact h2

/-- What rises from place i. -/
def upL (lt : α → α → Bool) (l : List α) (i : Nat) : List α :=
  if h : 0 < i ∧ lt (at' l i) (at' l ((i - 1) / 2)) = true then upL lt (swp l i ((i - 1) / 2)) ((i - 1) / 2) else l
termination_by i
decreasing_by omega

/-- The lesser kid's place. -/
def kid (lt : α → α → Bool) (l : List α) (i : Nat) : Nat := if 2 * i + 1 + 1 < l.length ∧ lt (at' l (2 * i + 1 + 1)) (at' l (2 * i + 1)) = true then 2 * i + 1 + 1 else 2 * i + 1
theorem kid_bd (l : List α) (i : Nat) : i < kid lt l i ∧ (kid lt l i = 2 * i + 1 ∨ kid lt l i = 2 * i + 2) := by unfold kid; split <;> omega

/-- What sinks from place i. -/
def downL (lt : α → α → Bool) (l : List α) (i : Nat) : List α :=
  if h : kid lt l i < l.length ∧ lt (at' l (kid lt l i)) (at' l i) = true then downL lt (swp l i (kid lt l i)) (kid lt l i) else l
termination_by l.length - i
decreasing_by
  have := (kid_bd (lt := lt) l i).1
  rw [swp_length]; omega

def IsHp (lt : α → α → Bool) (l : List α) : Prop := ∀ k, 0 < k → k < l.length → lt (at' l k) (at' l ((k - 1) / 2)) = false

theorem up_heap (T : Tot lt) (i : Nat) : ∀ l : List α, i < l.length → (∀ k, 0 < k → k < l.length → k ≠ i → lt (at' l k) (at' l ((k - 1) / 2)) = false) →
    (∀ k, 0 < k → k < l.length → (k - 1) / 2 = i → 0 < i → lt (at' l k) (at' l ((i - 1) / 2)) = false) →
    IsHp lt (upL lt l i) ∧ (upL lt l i).Perm l := by
  induction i using Nat.strongRecOn with
  | ind i ih =>
    intro l hi h hk
    rw [upL]
    split
    · rename_i hc
      obtain ⟨h0, hlt⟩ := hc
      obtain ⟨p, hp⟩ : ∃ p, (i - 1) / 2 = p := ⟨_, rfl⟩
      rw [hp] at hlt hk ⊢
      have hpi : p < i := by omega
      have hpl : p < l.length := by omega
      have hsw := fun k => at_swp l i p k hi hpl
      refine (fun hab => ⟨hab.1, hab.2.trans (swp_perm l i p hi hpl)⟩) (ih p hpi (swp l i p) (by rw [swp_length]; exact hpl) ?_ ?_)
      · intro k k0 kl kp
        rw [swp_length] at kl
        rw [hsw, hsw, if_neg kp]
        by_cases ki : k = i
        · subst ki
          rw [if_pos rfl, hp, if_pos rfl]; exact T.asym hlt
        · rw [if_neg ki]
          by_cases q1 : (k - 1) / 2 = i
          · rw [q1, if_neg (by omega), if_pos rfl]; exact hk k k0 kl q1 h0
          · by_cases q2 : (k - 1) / 2 = p
            · rw [q2, if_pos rfl]
              have := h k k0 kl ki
              rw [q2] at this
              exact T.le_tr (T.asym hlt) this
            · rw [if_neg q2, if_neg q1]; exact h k k0 kl ki
      · intro k k0 kl kp p0
        rw [swp_length] at kl
        have hpp := h p p0 hpl (by omega)
        rw [hsw ((p - 1) / 2), if_neg (show (p - 1) / 2 ≠ p by omega), if_neg (show (p - 1) / 2 ≠ i by omega), hsw k, if_neg (show k ≠ p by omega)]
        by_cases ki : k = i
        · rw [if_pos ki]; exact hpp
        · rw [if_neg ki]
          have := h k k0 kl ki
          rw [kp] at this
          exact T.le_tr hpp this
    · rename_i hc
      refine ⟨fun k k0 kl => ?_, List.Perm.refl _⟩
      by_cases ki : k = i
      · subst ki
        cases hx : lt (at' l k) (at' l ((k - 1) / 2))
        · rfl
        · exact absurd ⟨k0, hx⟩ hc
      · exact h k k0 kl ki

theorem upL_length (i : Nat) : ∀ l : List α, (upL lt l i).length = l.length := by
  induction i using Nat.strongRecOn with
  | ind i ih =>
    intro l
    rw [upL]
    split
    · rename_i hc
      rw [ih _ (by omega), swp_length]
    · rfl

theorem down_heap (T : Tot lt) (n : Nat) : ∀ (i : Nat) (l : List α), l.length - i ≤ n → i < l.length → (∀ k, 0 < k → k < l.length → k ≠ i → (k - 1) / 2 ≠ i → lt (at' l k) (at' l ((k - 1) / 2)) = false) →
    (∀ k, 0 < k → k < l.length → (k - 1) / 2 = i → 0 < i → lt (at' l k) (at' l ((i - 1) / 2)) = false) →
    (∀ k, 0 < k → k < l.length → k ≠ i → lt (at' (downL lt l i) k) (at' (downL lt l i) ((k - 1) / 2)) = false) ∧
    (∀ k, 0 < k → k < l.length → (k - 1) / 2 = i → 0 < i → lt (at' (downL lt l i) k) (at' (downL lt l i) ((i - 1) / 2)) = false) ∧
    (downL lt l i).Perm l ∧ (downL lt l i).length = l.length ∧ (∀ k, k < i → at' (downL lt l i) k = at' l k) ∧
    (∀ z, lt (at' l i) z = false → (∀ k, 0 < k → k < l.length → (k - 1) / 2 = i → lt (at' l k) z = false) → lt (at' (downL lt l i) i) z = false) := by
  induction n with
  | zero => intro i l h1 h2; omega
  | succ n ih =>
    intro i l hn hi h hk
    obtain ⟨c, hc⟩ : ∃ c, kid lt l i = c := ⟨_, rfl⟩
    have hcb := kid_bd (lt := lt) l i
    rw [hc] at hcb
    obtain ⟨hic, hc2⟩ := hcb
    have hcp : (c - 1) / 2 = i := by omega
    -- the kid is the lesser one
    have hmin : c < l.length → ∀ k, 0 < k → k < l.length → (k - 1) / 2 = i → lt (at' l k) (at' l c) = false := by
      intro hcl k k0 kl kp
      unfold kid at hc
      by_cases hh : 2 * i + 1 + 1 < l.length ∧ lt (at' l (2 * i + 1 + 1)) (at' l (2 * i + 1)) = true
      · rw [if_pos hh] at hc
        subst hc
        have : k = 2 * i + 1 ∨ k = 2 * i + 1 + 1 := by omega
        rcases this with rfl | rfl
        · exact T.asym hh.2
        · exact T.irr _
      · rw [if_neg hh] at hc
        subst hc
        have : k = 2 * i + 1 ∨ k = 2 * i + 1 + 1 := by omega
        rcases this with rfl | rfl
        · exact T.irr _
        · cases hx : lt (at' l (2 * i + 1 + 1)) (at' l (2 * i + 1))
          · rfl
          · exact absurd ⟨kl, hx⟩ hh
    rw [downL]
    simp only [hc]
    split
    · rename_i hcc
      obtain ⟨hcl, hlt⟩ := hcc
      have hsw := fun k => at_swp l i c k hi hcl
      have kidc : ∀ k, 0 < k → k < l.length → (k - 1) / 2 = c → lt (at' (swp l i c) k) (at' l c) = false := by
        intro k k0 kl kp
        rw [hsw, if_neg (by omega), if_neg (by omega)]
        have := h k k0 kl (by omega) (by omega)
        rw [kp] at this; exact this
      refine (fun hab => ?_) (ih c (swp l i c) (by rw [swp_length]; omega) (by rw [swp_length]; exact hcl) ?_ ?_)
      · obtain ⟨a1, a2, a3, a4, a5, a6⟩ := hab
        rw [swp_length] at a1 a2 a4
        have ei : at' (downL lt (swp l i c) c) i = at' l c := by rw [a5 i hic, hsw, if_neg (by omega), if_pos rfl]
        have elow : ∀ k, k < i → at' (downL lt (swp l i c) c) k = at' l k := fun k hki => by rw [a5 k (by omega), hsw, if_neg (by omega), if_neg (by omega)]
        have b1 : ∀ k, 0 < k → k < l.length → k ≠ i → lt (at' (downL lt (swp l i c) c) k) (at' (downL lt (swp l i c) c) ((k - 1) / 2)) = false := by
          intro k k0 kl ki
          by_cases kc : k = c
          · subst kc
            rw [hcp, ei]
            refine a6 _ ?_ ?_
            · rw [hsw, if_pos rfl]; exact T.asym hlt
            · intro q q0 ql qp
              rw [swp_length] at ql
              exact kidc q q0 ql qp
          · exact a1 k k0 kl kc
        refine ⟨b1, ?_, a3.trans (swp_perm l i c hi hcl), a4, elow, ?_⟩
        · intro k k0 kl kp i0
          have := b1 k k0 kl (by omega)
          rw [kp, ei] at this
          rw [elow ((i - 1) / 2) (by omega)]
          exact T.le_tr (hk c (by omega) hcl hcp i0) this
        · intro z hz hz2
          rw [ei]; exact hz2 c (by omega) hcl hcp
      · intro k k0 kl kc kp
        rw [swp_length] at kl
        rw [hsw, hsw, if_neg kc]
        by_cases ki : k = i
        · rw [if_pos ki, if_neg kp, if_neg (by omega)]
          rw [ki]
          exact hk c (by omega) hcl hcp (by omega)
        · rw [if_neg ki, if_neg kp]
          by_cases q1 : (k - 1) / 2 = i
          · rw [if_pos q1]; exact hmin hcl k k0 kl q1
          · rw [if_neg q1]; exact h k k0 kl ki q1
      · intro k k0 kl kp c0
        rw [swp_length] at kl
        rw [hcp]
        have e : at' (swp l i c) i = at' l c := by rw [hsw, if_neg (by omega), if_pos rfl]
        rw [e]
        exact kidc k k0 kl kp
    · rename_i hcc
      refine ⟨?_, hk, List.Perm.refl _, rfl, fun _ _ => rfl, fun z hz _ => hz⟩
      intro k k0 kl ki
      by_cases q1 : (k - 1) / 2 = i
      · rw [q1]
        have hcl : c < l.length := by
          unfold kid at hc
          split at hc <;> omega
        have hx : lt (at' l c) (at' l i) = false := by
          cases hx : lt (at' l c) (at' l i)
          · rfl
          · exact absurd ⟨hcl, hx⟩ hcc
        exact T.le_tr hx (hmin hcl k k0 kl q1)
      · exact h k k0 kl ki q1

theorem downL_length (n : Nat) : ∀ (l : List α) (i : Nat), l.length - i ≤ n → (downL lt l i).length = l.length := by
  induction n with
  | zero =>
    intro l i h
    rw [downL]
    split
    · rename_i hc
      have := (kid_bd (lt := lt) l i).1
      omega
    · rfl
  | succ n ih =>
    intro l i h
    rw [downL]
    split
    · rename_i hc
      have := (kid_bd (lt := lt) l i).1
      rw [ih _ _ (by rw [swp_length]; omega), swp_length]
    · rfl

/-- Behind a sinking and a rising there is a heap, whatever lay at i. -/
theorem fix_heap (T : Tot lt) (i : Nat) (l : List α) (hi : i < l.length) (h : ∀ k, 0 < k → k < l.length → k ≠ i → (k - 1) / 2 ≠ i → lt (at' l k) (at' l ((k - 1) / 2)) = false)
    (hk : ∀ k, 0 < k → k < l.length → (k - 1) / 2 = i → 0 < i → lt (at' l k) (at' l ((i - 1) / 2)) = false) :
    IsHp lt (upL lt (downL lt l i) i) ∧ (upL lt (downL lt l i) i).Perm l := by
  obtain ⟨a1, a2, a3, a4, _, _⟩ := down_heap T (l.length - i) i l (Nat.le_refl _) hi h hk
  obtain ⟨b1, b2⟩ := up_heap T i (downL lt l i) (by rw [a4]; exact hi) (by rw [a4]; exact a1) (by rw [a4]; exact a2)
  exact ⟨b1, b2.trans a3⟩

theorem root_least (T : Tot lt) (l : List α) (h : IsHp lt l) (k : Nat) (hk : k < l.length) : lt (at' l k) (at' l 0) = false := by
  induction k using Nat.strongRecOn with
  | ind k ih =>
    rcases Nat.eq_zero_or_pos k with rfl | k0
    · exact T.irr _
    · exact T.le_tr (ih ((k - 1) / 2) (by omega) (by omega)) (h k k0 hk)

theorem push_heap (T : Tot lt) (l : List α) (x : α) (h : IsHp lt l) : IsHp lt (upL lt (l ++ [x]) l.length) ∧ (upL lt (l ++ [x]) l.length).Perm (l ++ [x]) := by
  refine up_heap T l.length (l ++ [x]) (by simp) ?_ ?_
  · intro k k0 kl ki
    have : k < l.length := by simp at kl; omega
    rw [at_append_left _ _ _ this, at_append_left _ _ _ (by omega)]
    exact h k k0 this
  · intro k k0 kl kp i0
    simp at kl; omega

theorem change_heap (T : Tot lt) (l : List α) (i : Nat) (x : α) (hi : i < l.length) (h : IsHp lt l) :
    IsHp lt (upL lt (downL lt (l.set i x) i) i) ∧ (upL lt (downL lt (l.set i x) i) i).Perm (l.set i x) := by
  refine fix_heap T i (l.set i x) (by simpa using hi) ?_ ?_
  · intro k k0 kl ki kp
    rw [at_set _ _ _ _ hi, at_set _ _ _ _ hi, if_neg ki, if_neg kp]
    exact h k k0 (by simpa using kl)
  · intro k k0 kl kp i0
    have kl' : k < l.length := by simpa using kl
    rw [at_set _ _ _ _ hi, at_set _ _ _ _ hi, if_neg (by omega), if_neg (by omega)]
    have h1 := h k k0 kl'
    rw [kp] at h1
    exact T.le_tr (h i i0 hi) h1

/-- What 'out' leaves. -/
def outL (lt : α → α → Bool) (l : List α) (i : Nat) : List α :=
  if i < l.length - 1 then upL lt (downL lt ((swp l i (l.length - 1)).take (l.length - 1)) i) i else (swp l i (l.length - 1)).take (l.length - 1)

theorem swp_out_perm (l : List α) (i : Nat) (hi : i < l.length) : (at' l i :: (swp l i (l.length - 1)).take (l.length - 1)).Perm l := by
  have h1 := swp_perm l i (l.length - 1) hi (by omega)
  have h2 : (swp l i (l.length - 1)) = (swp l i (l.length - 1)).take (l.length - 1) ++ [at' l i] := by
    have hlen := swp_length l i (l.length - 1)
    have e := List.take_append_drop (l.length - 1) (swp l i (l.length - 1))
    have hd : (swp l i (l.length - 1)).drop (l.length - 1) = [at' l i] := by
      rw [List.drop_eq_getElem_cons (by rw [hlen]; omega)]
      have : l.length - 1 + 1 = (swp l i (l.length - 1)).length := by rw [hlen]; omega
      rw [this, List.drop_length]
      congr 1
      rw [← at_eq _ _ (by rw [hlen]; omega), at_swp _ _ _ _ hi (by omega), if_pos rfl]
    rw [hd] at e; exact e.symm
  rw [h2] at h1
  exact (List.perm_append_comm (l₁ := [at' l i])).trans h1

theorem out_heap (T : Tot lt) (l : List α) (i : Nat) (hi : i < l.length) (h : IsHp lt l) : IsHp lt (outL lt l i) ∧ (at' l i :: outL lt l i).Perm l := by
  have hlen : ((swp l i (l.length - 1)).take (l.length - 1)).length = l.length - 1 := by rw [List.length_take, swp_length]; omega
  have hat : ∀ k, k < l.length - 1 → k ≠ i → at' ((swp l i (l.length - 1)).take (l.length - 1)) k = at' l k := fun k hk hki => by
    rw [at_take _ _ _ hk, at_swp _ _ _ _ hi (by omega), if_neg (by omega), if_neg hki]
  unfold outL
  by_cases hl : i < l.length - 1
  · rw [if_pos hl]
    obtain ⟨a, b⟩ := fix_heap T i _ (by rw [hlen]; exact hl) (fun k k0 kl ki kp => by
      rw [hlen] at kl
      rw [hat k kl ki, hat _ (by omega) kp]
      exact h k k0 (by omega)) (fun k k0 kl kp i0 => by
      rw [hlen] at kl
      rw [hat k kl (by omega), hat _ (by omega) (by omega)]
      have h1 := h k k0 (by omega)
      rw [kp] at h1
      exact T.le_tr (h i i0 hi) h1)
    exact ⟨a, (b.cons _).trans (swp_out_perm l i hi)⟩
  · rw [if_neg hl]
    refine ⟨fun k k0 kl => ?_, swp_out_perm l i hi⟩
    rw [hlen] at kl
    rw [hat k kl (by omega), hat _ (by omega) (by omega)]
    exact h k k0 (by omega)

end
end Go.Proofs.Ytaogdgbijjjpjaa
