/- WALK: WheelCancels. -/
import Derived.Test.YthmbbbdnfgefbaaTwoW
namespace Go.Proofs.Ythmbbbdnfgefbaa
open Go.RowKit
set_option linter.unusedVariables false

/-- What is not id's. -/
abbrev nid (id : Int) (m : List (Int × Int)) : List (Int × Int) := m.filter fun d => !(d.2 == id)

theorem ins_filter {d : Int × Int} {m : List (Int × Int)} (p : Int × Int → Bool) (h : Srt m) (hd : d ∉ m) (hp : p d = true) : (ins d m).filter p = ins d (m.filter p) := by
  have hs : Srt (ins d (m.filter p)) := ins_srt (srt_filter h p) fun hc => hd (List.mem_filter.1 hc).1
  refine srt_eq ?_ (List.Pairwise.imp (fun h => ltD_asymm h) (srt_filter (ins_srt h hd) p)) hs
  refine ((ins_perm d m).filter p).trans ?_
  rw [List.filter_cons_of_pos hp]
  exact (ins_perm d _).symm

theorem ins_filter_out {d : Int × Int} {m : List (Int × Int)} (p : Int × Int → Bool) (hp : ¬ p d = true) : (ins d m).filter p = m.filter p := by
  unfold ins
  rw [List.filter_append, List.filter_cons_of_neg hp, ← List.filter_append, List.takeWhile_append_dropWhile]

theorem nid_any {i id : Int} (h : i ≠ id) (m : List (Int × Int)) : ((nid id m).any fun x => x.2 == i) = m.any fun x => x.2 == i := by
  induction m with
  | nil => rfl
  | cons x m ih =>
    unfold nid at *
    by_cases hx : x.2 = id
    · rw [List.filter_cons_of_neg (by simp [hx]), ih, List.any_cons]
      simp [hx]; intro h'; exact absurd h'.symm h
    · rw [List.filter_cons_of_pos (by simp [hx]), List.any_cons, List.any_cons, ih]

theorem any_mem {d : Int × Int} {m : List (Int × Int)} (h : (m.any fun x => x.2 == d.2) = false) : d ∉ m := fun hd => any_false_iff h (List.mem_map.2 ⟨d, hd, rfl⟩)

theorem addM_nid {m : List (Int × Int)} {a i id : Int} (hm : Srt m) (hl : m.length < 1024) (h : i ≠ id) :
    (addM 0 ((1024 : Nat) : Int) (nid id m) (a, i)).2 = nid id (addM 0 ((1024 : Nat) : Int) m (a, i)).2 := by
  have hl2 : (nid id m).length ≤ m.length := List.length_filter_le _ _
  unfold addM
  by_cases hb : a < 0 ∨ 1099511627776 < a
  · rw [if_pos hb, if_pos hb]
  · rw [if_neg hb, if_neg hb, nid_any h]
    cases ha : m.any fun x => x.2 == i
    · have e1 : ¬ ((nid id m).length : Int) = ((1024 : Nat) : Int) := by omega
      have e2 : ¬ (m.length : Int) = ((1024 : Nat) : Int) := by omega
      simp only [Bool.false_eq_true, if_false]
      rw [if_neg e1, if_neg e2]
      exact (ins_filter _ hm (any_mem ha) (by simp [h])).symm
    · rw [if_pos rfl, if_pos rfl]

theorem addM_nid_out {m : List (Int × Int)} {a id : Int} : nid id m = nid id (addM 0 ((1024 : Nat) : Int) m (a, id)).2 := by
  unfold addM
  split
  · rfl
  · split
    · rfl
    · split
      · rfl
      · exact (ins_filter_out _ (by simp)).symm

theorem addM_len (m : List (Int × Int)) (d : Int × Int) : (addM 0 ((1024 : Nat) : Int) m d).2.length ≤ m.length + 1 := by
  unfold addM
  split
  · simp
  · split
    · simp
    · split
      · simp
      · rw [(ins_perm d m).length_eq]; simp

theorem nid_lt (id : Int) (m : List (Int × Int)) : (m.any fun d => d.2 == id) = decide ((nid id m).length < m.length) := by
  rw [Bool.eq_iff_iff, decide_eq_true_eq]
  have := List.length_filter_le (fun d : Int × Int => !(d.2 == id)) m
  constructor
  · intro h
    obtain ⟨d, hd, he⟩ := List.any_eq_true.1 h
    rcases Nat.lt_or_ge (nid id m).length m.length with h1 | h1
    · exact h1
    · have h2 := (List.length_filter_eq_length_iff (p := fun d : Int × Int => !(d.2 == id))).1 (Nat.le_antisymm this h1) d hd
      rw [he] at h2; simp at h2
  · intro h
    cases hc : m.any fun d => d.2 == id
    · have h3 : nid id m = m := List.filter_eq_self.2 fun d hd => by have := List.any_eq_false.1 hc d hd; simpa using this
      rw [h3] at h; omega
    · rfl

theorem filter_len_two (p : Int × Int → Bool) (m : List (Int × Int)) : (m.filter p).length + (m.filter fun d => !p d).length = m.length := by
  have := (List.filter_append_perm p m).length_eq
  rw [List.length_append] at this; exact this

set_option maxHeartbeats 4000000 in
set_option maxRecDepth 100000 in
theorem cancels_walk (a0 : Option Addr) (n0 c0 : Nat) (ys : List (Int × Int)) (id t : Int) (w : World)
    (h1 : PairsIn w.heap.size w a0 n0 ys) (l1 : n0 ≤ 9223372036854775807) (r1 : ∀ z ∈ ys, (Lit.int .i64 z.1).wf = true ∧ (Lit.int .i64 z.2).wf = true)
    (r2 : (Lit.int .i64 id).wf = true) (r3 : (Lit.int .u32 t).wf = true) :
    Calls Try.prog 6 #[.slice a0 n0 c0, .int .i64 id, .int .u32 t] w fun e w' => e = .returned (.bool true) ∧ Below w.heap.size w w' := by
  have ht : 0 ≤ t ∧ t ≤ 4294967295 := by
    simp [Lit.wf] at r3
    have e1 : IntKind.u32.min = 0 := rfl
    have e2 : IntKind.u32.max = 4294967295 := rfl
    omega
  obtain ⟨ht0, ht1⟩ := ht
  clear r1 r2 r3
  by_cases hbig : 200 < n0
  · go_enter Try.func6, Try.ntmps6
    go_wp2_with fail
    refine (awake_any _).mono ?_
    rintro e w1 ⟨rfl, hb1⟩
    go_wp2_with fail
    refine (awake_any _).mono ?_
    rintro e w2 ⟨rfl, hb2⟩
    go_wp2_with fail
    go_ret
    exact ⟨rfl, hb1.trans (hb2.mono hb1.size)⟩
  · have hn0 : n0 ≤ 200 := by omega
    clear hbig
    go_enter Try.func6, Try.ntmps6
    go_wp2_with fail
    refine (awake_any _).mono ?_
    rintro e w1 ⟨rfl, hb1⟩
    go_wp2_with fail
    refine (new_m w.heap.size 1024 _ (by omega) (by omega) hb1.size).mono ?_
    rintro e w2 ⟨⟨pa, Fa, rfl, hWa, hFa⟩, hb2⟩
    have hbw2 : Below w.heap.size w w2 := hb1.trans (hb2.mono hb1.size)
    go_wp2_with fail
    refine (new_m w.heap.size 1024 _ (by omega) (by omega) hbw2.size).mono ?_
    rintro e w3 ⟨⟨pb, Fb, rfl, hWb, hFb⟩, hb3⟩
    have hW : W2 w w3 pa pb 1024 Fa Fb 0 0 [] [] := ⟨hWa.below hb3, hWb, fun k ha hb => by have := (hWa.flt k ha).1; have := hFb k hb; omega, hbw2.trans (hb3.mono hbw2.size)⟩
    clear hWa hWb hFa hFb hb1 hb2 hb3 hbw2
    go_wp2_with fail
    go_loopw [11] (fun i wr => ∃ (j : Nat) (m : List (Int × Int)) (Fa Fb : Nat → Prop), j ≤ n0 ∧ i = .int .i64 j ∧ m.length ≤ j ∧ W2 w wr pa pb 1024 Fa Fb 0 0 m (nid id m)) (fun i _ => n0 - (intOf i).toNat)
    case atStart => exact ⟨0, [], Fa, Fb, Nat.zero_le _, rfl, by simp, hW⟩
    case round =>
      clear hW Fa Fb
      obtain ⟨j, m, Fa, Fb, hj, rfl, hmj, hW⟩ := hrel
      by_cases hlt : j < n0
      · obtain ⟨hyl, hy⟩ := h1.keep hW.bel
        obtain ⟨b, off, rfl, hbB, hcc⟩ := hy (by omega)
        obtain ⟨da, hda⟩ : ∃ g, ys[j].1 = g := ⟨_, rfl⟩
        obtain ⟨di, hdi⟩ : ∃ g, ys[j].2 = g := ⟨_, rfl⟩
        have HC : Hid (∀ w', Below w.heap.size w w' → w'.cell? ⟨b, off + j * 2, none⟩ = some (.int .i64 da) ∧ w'.cell? ⟨b, off + j * 2 + 1, none⟩ = some (.int .i64 di)) := by
          intro w' hb
          obtain ⟨b', off', e, _, hc'⟩ := (h1.keep hb).2 (by omega)
          simp at e
          obtain ⟨rfl, rfl⟩ := e
          have := hc' j (by omega)
          rw [hda, hdi] at this
          exact this
        clear hy hcc hda hdi
        have hjI : (j : Int) < (n0 : Int) := by omega
        obtain ⟨cg, ct⟩ := HC.out wr hW.bel
        have hmS := hW.a.srt
        have hlen := addM_len m (da, di)
        have hA := Lib.hid (hW.addA da di)
        have Hout := Lib.hid (@addM_nid_out m da id)
        have Hin : Hid (di ≠ id → (addM 0 ((1024 : Nat) : Int) (nid id m) (da, di)).2 = nid id (addM 0 ((1024 : Nat) : Int) m (da, di)).2) := fun h => addM_nid hmS (by omega) h
        have H1 := Lib.hid h1
        clear h1 hW hmS
        go_wp2_with fail
        refine hA.out.mono ?_
        rintro e w4 ⟨rfl, Fa4, hW4⟩
        obtain ⟨cg4, ct4⟩ := HC.out w4 hW4.bel
        by_cases hdi : di = id
        · subst hdi
          rw [Hout.out] at hW4
          generalize (addM 0 ((1024 : Nat) : Int) m (da, di)).2 = m' at *
          go_wp2_with fail
          go_roundw
          case rel => exact ⟨j + 1, m', Fa4, Fb, by omega, by go_num, by omega, hW4⟩
          case measure => simp [intOf]; omega
        · have hne : ¬ (di == id) = true := by simpa using hdi
          have hB := hW4.addB da di
          rw [Hin.out hdi] at hB
          have HB := Lib.hid hB
          clear hB hW4
          generalize (addM 0 ((1024 : Nat) : Int) m (da, di)).2 = m' at *
          go_wp2_with fail
          refine HB.out.mono ?_
          rintro e w5 ⟨rfl, Fb5, hW5⟩
          go_wp2_with fail
          go_roundw
          case rel => exact ⟨j + 1, m', Fa4, Fb5, by omega, by go_num, by omega, hW5⟩
          case measure => simp [intOf]; omega
      · have hcan := hW.cancelA id
        have HC := Lib.hid hcan
        have HL := Lib.hid (len_m hW.a)
        clear hcan hW
        go_wp2_with fail
        refine HL.out.mono ?_
        rintro e w4 ⟨rfl, rfl⟩
        go_wp2_with fail
        refine HC.out.mono ?_
        rintro e w5 ⟨rfl, Fa5, hW5⟩
        have hW5' : W2 w w5 pa pb 1024 Fa5 Fb 0 0 (nid id m) (nid id m) := hW5
        have hlt := nid_lt id m
        have hlen := filter_len_two (fun d => decide (d.1 ≤ t)) (nid id m)
        have hle : (nid id m).length ≤ m.length := List.length_filter_le _ _
        clear hW5 HC HL
        generalize nid id m = q at *
        generalize (m.any fun d => d.2 == id) = ca at *
        have HV := Lib.hid (hW5'.advA t (by omega) (by omega))
        clear hW5'
        go_wp2_with fail
        refine HV.out.mono ?_
        rintro e w6 ⟨xa, xc, Fa6, rfl, hX, hW6, hF6, hf6⟩
        have HV6 := Lib.hid (hW6.swap.advA t (by omega) (by omega))
        clear HV
        generalize hl : (q.filter fun d => decide (d.1 ≤ t)) = l at *
        generalize hr : (q.filter fun d => !decide (d.1 ≤ t)) = r at *
        clear hl hr
        have hll : l.length ≤ 1024 := by omega
        have hb6 := hW6.bel.size
        go_wp2_with fail
        refine HV6.out.mono ?_
        rintro e w7 ⟨ya, yc, Fb7, rfl, hY, hW7, hF7, hf7⟩
        have hW7 := hW7.swap
        have hX7 : w7.ownsRow w5.heap.size 30 2 (.slice xa l.length xc) l.length (l.flatMap dueC) := ownsRow_keep hX.own fun k hk => hf7.block k (ownsRow_lt hX.own k hk) (fun hc => (hX.fa k hk).2 hc)
        have hD1 := dues_of_own hX7 rfl
        have hD2 := dues_of_own hY.own rfl
        have hS := Lib.hid (same_any _ _ _ _ xc yc l w7 hD1 hD2 (Nat.le_refl _) (by omega))
        clear HV6 hX hY hX7 hD1 hD2 hF6 hf6 hF7 hf7 hW6
        go_wp2_with fail
        refine hS.out.mono ?_
        rintro e w8 ⟨rfl, hb8⟩
        have hW8a := hW7.a.below hb8
        have hW8b := hW7.b.below hb8
        have hbel8 := hW7.bel.trans (hb8.mono hW7.bel.size)
        clear hW7 hS
        go_wp2_with fail
        refine (len_m hW8a).mono ?_
        rintro e w9 ⟨rfl, rfl⟩
        go_wp2_with fail
        refine (len_m hW8b).mono ?_
        rintro e w9 ⟨rfl, rfl⟩
        go_wp2_with fail
        refine (len_m hW8a).mono ?_
        rintro e w9 ⟨rfl, rfl⟩
        go_wp2_with fail
        go_ret
        exact ⟨by simp; omega, hbel8⟩
end Go.Proofs.Ythmbbbdnfgefbaa
