/- WALK: DelayOwn. -/
import Derived.Test.YtbcoiemjbbbmkaaOpensW
namespace Go.Proofs.Ytbcoiemjbbbmkaa
open Go.RowKit
set_option linter.unusedVariables false

theorem goStep_other (gs : List Gate) (i t : Int) (k : Nat) (h : i ≠ (k : Int)) : (goStep gs i t).2[k]? = gs[k]? := by
  unfold goStep; split; · rfl
  split; · rfl
  rename_i h1 h2
  rw [List.getElem?_set_ne (by omega)]

theorem goStep_same (gs hs : List Gate) (k : Nat) (t : Int) (hl : gs.length = hs.length) (h : gs[k]? = hs[k]?) :
    (goStep gs k t).1 = (goStep hs k t).1 ∧ (goStep gs k t).2[k]? = (goStep hs k t).2[k]? := by
  unfold goStep
  rw [hl]
  split
  · exact ⟨rfl, h⟩
  · rename_i h1
    have e : gs.getD (k : Int).toNat default = hs.getD (k : Int).toNat default := by simp [List.getD_eq_getElem?_getD, h]
    rw [e]
    split
    · exact ⟨rfl, h⟩
    · refine ⟨rfl, ?_⟩
      simp only [Int.toNat_natCast]
      rw [List.getElem?_set_self (by omega), List.getElem?_set_self (by omega)]

theorem StO.keep {w0 w w' : World} {p q cap N n0 : Nat} {xs : List Int} {gs : List Gate} {S : Nat → Prop} (h : StO w0 w p q cap N n0 xs gs) (hf : Fr S w w')
    (hp : ¬ S p) (hq : ¬ S q) (hS : ∀ i, i < w.heap.size → S i → w0.heap.size ≤ i) : StO w0 w' p q cap N n0 xs gs :=
  ⟨h.g.keep hf hp hq, h.bel.trans (hf.below hS h.bel.size), h.lo, h.len, h.ap⟩

/-- Two guards, apart in memory. -/
structure St2 (w0 w : World) (pa qa ca pb qb cb N n0 : Nat) (xs : List Int) (gs hs : List Gate) : Prop where
  a : StO w0 w pa qa ca N n0 xs gs
  b : StO w0 w pb qb cb N n0 xs hs
  ne : pa ≠ pb ∧ pa ≠ qb ∧ qa ≠ pb ∧ qa ≠ qb

theorem St2.drew {w0 w : World} {pa qa ca pb qb cb N n0 : Nat} {xs : List Int} {gs hs : List Gate} (h : St2 w0 w pa qa ca pb qb cb N n0 xs gs hs) : St2 w0 w.drew pa qa ca pb qb cb N n0 xs gs hs :=
  ⟨h.a.drew, h.b.drew, h.ne⟩

theorem StO.more {w0 w : World} {p q cap N M n0 : Nat} {xs : List Int} {gs : List Gate} (h : StO w0 w p q cap N n0 xs gs) (hN : N ≤ M) : StO w0 w p q cap M n0 xs gs := ⟨h.g.more hN, h.bel, h.lo, h.len, h.ap⟩

theorem St2.goA {w0 w : World} {pa qa ca pb qb cb N n0 : Nat} {xs : List Int} {gs hs : List Gate} (h : St2 w0 w pa qa ca pb qb cb N n0 xs gs hs) (hN : N ≤ 1000000) (i t : Int) :
    Calls Try.prog 11 #[.pointer (some ⟨pa, 0, none⟩), .int .i64 i, .int .i64 t] w fun e w' => e = .returned (.int .i64 (goStep gs i t).1) ∧ St2 w0 w' pa qa ca pb qb cb (N + 1) n0 xs (goStep gs i t).2 hs :=
  (go_any pa qa ca N gs i t w h.a.g hN).mono fun _ _ ⟨he, hg, hf⟩ =>
    ⟨he, ⟨hg, h.a.bel.trans (hf.below (by rintro i _ rfl; have := h.a.lo; omega) h.a.bel.size), h.a.lo, (goStep_length gs i t).trans h.a.len.out, (goStep_apart gs i t).trans h.a.ap.out⟩,
      (h.b.keep hf (by have := h.ne; omega) (by have := h.ne; omega) (by rintro i _ rfl; have := h.a.lo; omega)).more (Nat.le_succ _), h.ne⟩

theorem St2.goB {w0 w : World} {pa qa ca pb qb cb N n0 : Nat} {xs : List Int} {gs hs : List Gate} (h : St2 w0 w pa qa ca pb qb cb N n0 xs gs hs) (hN : N ≤ 1000000) (i t : Int) :
    Calls Try.prog 11 #[.pointer (some ⟨pb, 0, none⟩), .int .i64 i, .int .i64 t] w fun e w' => e = .returned (.int .i64 (goStep hs i t).1) ∧ St2 w0 w' pa qa ca pb qb cb (N + 1) n0 xs gs (goStep hs i t).2 :=
  (go_any pb qb cb N hs i t w h.b.g hN).mono fun _ _ ⟨he, hg, hf⟩ =>
    ⟨he, (h.a.keep hf (by have := h.ne; omega) (by have := h.ne; omega) (by rintro i _ rfl; have := h.b.lo; omega)).more (Nat.le_succ _),
      ⟨hg, h.b.bel.trans (hf.below (by rintro i _ rfl; have := h.b.lo; omega) h.b.bel.size), h.b.lo, (goStep_length hs i t).trans h.b.len.out, (goStep_apart hs i t).trans h.b.ap.out⟩, h.ne⟩

set_option maxHeartbeats 1000000 in
set_option maxRecDepth 100000 in
theorem own_walk (a0 : Option Addr) (n0 c0 : Nat) (xs : List Int) (a1 : Option Addr) (n1 c1 : Nat) (ys : List (Int × Int)) (gate : Int) (w : World)
    (h0 : IntsIn w.heap.size w a0 n0 xs) (l0 : n0 ≤ 9223372036854775807) (r0 : ∀ z ∈ xs, (Lit.int .i64 z).wf = true)
    (h1 : PairsIn w.heap.size w a1 n1 ys) (l1 : n1 ≤ 9223372036854775807) (r1 : ∀ z ∈ ys, (Lit.int .i64 z.1).wf = true ∧ (Lit.int .i64 z.2).wf = true) (r2 : (Lit.int .u8 gate).wf = true) :
    Calls Try.prog 5 #[.slice a0 n0 c0, .slice a1 n1 c1, .int .u8 gate] w fun e w' => e = .returned (.bool true) ∧ Below w.heap.size w w' := by
  clear r0 r1
  have hgt : 0 ≤ gate ∧ gate ≤ 255 := by
    simp [Lit.wf] at r2
    have e1 : IntKind.u8.min = 0 := rfl
    have e2 : IntKind.u8.max = 255 := rfl
    omega
  obtain ⟨hgt0, hgt1⟩ := hgt
  clear r2
  cases hbad : badNew n0 xs
  · have Hbad := Lib.hid hbad
    have hn1' : 1 ≤ n0 ∧ n0 ≤ 16 := by
      have := hbad; unfold badNew at this; simp at this; omega
    clear hbad
    have hn01 : 1 ≤ n0 := hn1'.1
    have hn16 : n0 ≤ 16 := hn1'.2
    clear hn1'
    by_cases hn1 : 300 < n1
    · go_enter Try.func5, Try.ntmps5
      go_wp2_with fail
      refine (awake_any _).mono ?_
      rintro e w1 ⟨rfl, hb1⟩
      go_wp2_with fail
      refine (right_any w.heap.size a0 n0 c0 xs _ (h0.keep hb1) l0).mono ?_
      rw [Hbad.out]
      rintro e w3 ⟨rfl, rfl⟩
      go_wp2_with fail
      refine (awake_any _).mono ?_
      rintro e w2 ⟨rfl, hb2⟩
      go_wp2_with fail
      go_ret
      exact ⟨rfl, hb1.trans (hb2.mono hb1.size)⟩
    · have hn1 : n1 ≤ 300 := by omega
      obtain ⟨k, hkd⟩ : ∃ k : Nat, gate % (n0 : Int) = (k : Int) := ⟨(gate % n0).toNat, by have := Int.emod_nonneg gate (b := (n0 : Int)) (by omega); omega⟩
      have hkn : k < n0 := by have := Int.emod_lt_of_pos gate (b := (n0 : Int)) (by omega); omega
      go_enter Try.func5, Try.ntmps5
      go_wp2_with fail
      refine (awake_any _).mono ?_
      rintro e w1 ⟨rfl, hb1⟩
      go_wp2_with fail
      refine (right_any w.heap.size a0 n0 c0 xs _ (h0.keep hb1) l0).mono ?_
      rw [Hbad.out]
      rintro e w3 ⟨rfl, rfl⟩
      go_wp2_with fail
      refine (new_good w.heap.size _ _ _ xs _ (h0.keep hb1) l0 Hbad.out hb1.size).mono ?_
      rintro e w2 ⟨⟨pa, qa, ca, rfl, hg2, hp, hq⟩, hb2⟩
      have hb02 : Below w.heap.size w w2 := hb1.trans (hb2.mono hb1.size)
      have hs2 := hb02.size
      go_wp2_with fail
      refine (new_good w.heap.size _ _ _ xs _ (h0.keep hb02) l0 Hbad.out hb02.size).mono ?_
      rintro e w3 ⟨⟨pb, qb, cb, rfl, hg3, hp3, hq3⟩, hb3⟩
      have hS : St2 w w3 pa qa ca pb qb cb 0 n0 xs (newGates xs) (newGates xs) := by
        have e1 : (newGates xs).length = n0 := by simp [newGates, h0.1]
        have e2 : (newGates xs).map (·.apart) = xs := by simp [newGates, Function.comp_def]
        have hb03 : Below w.heap.size w w3 := hb02.trans (hb3.mono hs2)
        have p1 := hg2.p1
        have q1 := hg2.q1
        have := hb1.size
        exact ⟨⟨hg2.keep (Fr.of_below (S := fun _ => False) hb3) (by simp) (by simp), hb03, by omega, e1, e2⟩, ⟨hg3, hb03, by omega, e1, e2⟩, by omega⟩
      clear hg2 hg3 hb02 hb2 hb1 hs2 hp hq hp3 hq3 hb3
      have hk0 : Hid ((newGates xs)[k]? = (newGates xs)[k]?) := rfl
      have hS' : ∃ gs hs, St2 w w3 pa qa ca pb qb cb 0 n0 xs gs hs ∧ Hid (gs[k]? = hs[k]?) := ⟨_, _, hS, rfl⟩
      clear hS hk0
      obtain ⟨gs0, hs0, hS, hk0⟩ := hS'
      go_wp2_with fail
      go_loopw [12] (fun i wr => ∃ (j N : Nat) (gs hs : List Gate), j ≤ n1 ∧ i = .int .i64 j ∧ N ≤ 2 * j ∧ St2 w wr pa qa ca pb qb cb N n0 xs gs hs ∧ Hid (gs[k]? = hs[k]?)) (fun i _ => n1 - (intOf i).toNat)
      case atStart => exact ⟨0, 0, _, _, Nat.zero_le _, rfl, Nat.le_refl _, hS, hk0⟩
      case round =>
        clear hS hk0 gs0 hs0
        obtain ⟨j, N, gs, hs, hj, rfl, hN, hS, HK⟩ := hrel
        by_cases hlt : j < n1
        · obtain ⟨hyl, hy⟩ := h1.keep hS.a.bel
          obtain ⟨b, off, rfl, hbB, hcc⟩ := hy (by omega)
          have hcell := hcc j (by omega)
          obtain ⟨g, hgy⟩ : ∃ g, ys[j].1 = g := ⟨_, rfl⟩
          obtain ⟨t, hty⟩ : ∃ t, ys[j].2 = t := ⟨_, rfl⟩
          have HC : Hid (∀ w', Below w.heap.size w w' → w'.cell? ⟨b, off + j * 2, none⟩ = some (.int .i64 g) ∧ w'.cell? ⟨b, off + j * 2 + 1, none⟩ = some (.int .i64 t)) := by
            intro w' hb
            obtain ⟨b', off', e, _, hc'⟩ := (h1.keep hb).2 (by omega)
            simp at e
            obtain ⟨rfl, rfl⟩ := e
            have := hc' j (by omega)
            rw [hgy, hty] at this
            exact this
          rw [hgy, hty] at hcell
          obtain ⟨cg, ct⟩ := hcell
          clear hy hcc hgy hty
          have hjI : (j : Int) < (n1 : Int) := by omega
          go_wp2_with fail
          go_still_tail 11, (by kernel_rfl)
          change wpList _ _ _ _ _ wr.drew
          have hS := hS.drew
          generalize wr.drew = w5 at *
          go_wp2_with fail
          refine (hS.goA (by omega) g t).mono ?_
          rintro e w6 ⟨rfl, hS6⟩
          obtain ⟨dg, dt⟩ := HC.out w6 hS6.a.bel
          by_cases hgk : g = k
          · subst hgk
            have hsm := goStep_same gs hs k t (hS.a.len.out.trans hS.b.len.out.symm) HK.out
            have hr := hsm.1
            have HK2 := Lib.hid hsm.2
            have hB := hS6.goB (by omega) k t
            rw [← hr] at hB
            clear hr hsm
            generalize (goStep gs k t).1 = r at *
            generalize (goStep gs k t).2 = gs' at *
            generalize (goStep hs k t).2 = hs' at *
            have HB := Lib.hid hB; clear hB
            go_wp2_with fail
            refine HB.out.mono ?_
            rintro e w7 ⟨rfl, hS7⟩
            go_wp2_with fail
            go_roundw
            case rel => exact ⟨j + 1, N + 1 + 1, gs', hs', by omega, by go_num, by omega, hS7, HK2⟩
            case measure => simp [intOf]; omega
          · have HK2 : Hid ((goStep gs g t).2[k]? = hs[k]?) := (goStep_other gs g t k hgk).trans HK.out
            have hgb : (g == (k : Int)) = false := by simp [hgk]
            generalize (goStep gs g t).1 = r at *
            generalize (goStep gs g t).2 = gs' at *
            go_wp2_with fail
            go_roundw
            case rel => exact ⟨j + 1, N + 1, gs', hs, by omega, by go_num, by omega, hS6, HK2⟩
            case measure => simp [intOf]; omega
        · have hka : k < gs.length := by have := hS.a.len.out; omega
          have hkb : k < hs.length := by have := hS.b.len.out; omega
          have hla := hS.a.len.out
          have hlb := hS.b.len.out
          have e1 : openF hs k = openF gs k := by unfold openF; rw [if_pos (by omega), if_pos (by omega)]; have := HK.out; simp [List.getD_eq_getElem?_getD, this]
          have e2 : countF hs k = countF gs k := by unfold countF; rw [if_pos (by omega), if_pos (by omega)]; have := HK.out; simp [List.getD_eq_getElem?_getD, this]
          have O1 := Lib.hid (open_is (b := true) hS.a.g (rfl : openF gs k = _) (by simp; omega))
          have O2 := Lib.hid (open_is (b := true) hS.b.g e1 (by simp; omega))
          have C1 := Lib.hid (count_is hS.a.g (rfl : countF gs k = _))
          have C2 := Lib.hid (count_is hS.b.g e2)
          clear e1 e2 hla hlb
          generalize openF gs k = o at *
          generalize countF gs k = c at *
          go_wp2_with fail
          refine O1.out.mono ?_
          rintro e w6 ⟨rfl, rfl⟩
          go_wp2_with fail
          refine O2.out.mono ?_
          rintro e w6 ⟨rfl, rfl⟩
          go_wp2_with fail
          refine C1.out.mono ?_
          rintro e w6 ⟨rfl, rfl⟩
          go_wp2_with fail
          refine C2.out.mono ?_
          rintro e w6 ⟨rfl, rfl⟩
          go_wp2_with fail
          go_ret
          exact ⟨by simp, hS.a.bel⟩
  · have Hbad := Lib.hid hbad; clear hbad
    go_enter Try.func5, Try.ntmps5
    go_wp2_with fail
    refine (awake_any _).mono ?_
    rintro e w1 ⟨rfl, hb1⟩
    go_wp2_with fail
    refine (right_any w.heap.size a0 n0 c0 xs _ (h0.keep hb1) l0).mono ?_
    rw [Hbad.out]
    rintro e w3 ⟨rfl, rfl⟩
    go_wp2_with fail
    refine (awake_any _).mono ?_
    rintro e w2 ⟨rfl, hb2⟩
    go_wp2_with fail
    go_ret
    exact ⟨rfl, hb1.trans (hb2.mono hb1.size)⟩
end Go.Proofs.Ytbcoiemjbbbmkaa
