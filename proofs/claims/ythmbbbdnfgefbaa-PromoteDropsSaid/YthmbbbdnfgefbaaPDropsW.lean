/- WALK: PromoteDrops. -/
import Derived.Test.YthmbbbdnfgefbaaPKeepsW
import Derived.Test.YthmbbbdnfgefbaaCancelsW
namespace Go.Proofs.Ythmbbbdnfgefbaa
open Go.RowKit
set_option linter.unusedVariables false

/-- Two promoters, apart in memory. -/
structure PP (w0 w : World) (qa pa qb pb : Nat) (Fa Fb : Nat → Prop) (na nb : Int) (ma mb : List (Int × Int)) : Prop where
  a : PX w0 w qa pa 200 Fa na ma
  b : PX w0 w qb pb 200 Fb nb mb
  ap : ∀ k, Fa k → ¬ Fb k
  qa : ¬ Fb qa
  qb : ¬ Fa qb
theorem PP.swap {w0 w : World} {qa pa qb pb : Nat} {Fa Fb : Nat → Prop} {na nb : Int} {ma mb : List (Int × Int)} (h : PP w0 w qa pa qb pb Fa Fb na nb ma mb) : PP w0 w qb pb qa pa Fb Fa nb na mb ma :=
  ⟨h.b, h.a, fun k hb ha => h.ap k ha hb, h.qb, h.qa⟩
theorem PP.turn {w0 w w' : World} {qa pa qb pb : Nat} {Fa Fb Fa' : Nat → Prop} {na na' nb : Int} {ma ma' mb : List (Int × Int)} (h : PP w0 w qa pa qb pb Fa Fb na nb ma mb) (h' : PX w0 w' qa pa 200 Fa' na' ma') (hF : ∀ k, Fa' k → Fa k ∨ w.heap.size ≤ k) (hf : Fr Fa w w') :
    PP w0 w' qa pa qb pb Fa' Fb na' nb ma' mb :=
  ⟨h', h.b.keep hf (fun k hb ha => h.ap k ha hb) h.qb (fun k hk => (h.a.a.flt k hk).2), fun k ha hb => (hF k ha).elim (fun ha => h.ap k ha hb) (fun hk => by have := (h.b.a.flt k hb).1; omega), h.qa, fun hk => (hF _ hk).elim h.qb fun hk => by have := h.b.lt; omega⟩
theorem PP.waitA {w0 w : World} {qa pa qb pb : Nat} {Fa Fb : Nat → Prop} {na nb : Int} {ma mb m' : List (Int × Int)} {id release d r x y : Int} (h : PP w0 w qa pa qb pb Fa Fb na nb ma mb) (hd : d ≤ 9223372036854775807) (hE : waitM na ((200 : Nat) : Int) ma id release d r = (x, y, m')) :
    Calls Try.prog 24 #[.pointer (some ⟨qa, 0, none⟩), .int .i64 id, .int .i64 release, .int .i64 d, .int .i64 r] w fun e w' => e = .returned (.tuple #[.int .i64 x, .int .i64 y]) ∧ ∃ Fa', PP w0 w' qa pa qb pb Fa' Fb na nb m' mb :=
  (h.a.wait_is hd hE).mono fun _ _ ⟨he, F', hW, hF, hf⟩ => ⟨he, F', h.turn hW hF hf⟩
theorem PP.dropA {w0 w : World} {qa pa qb pb : Nat} {Fa Fb : Nat → Prop} {na nb : Int} {ma mb : List (Int × Int)} (h : PP w0 w qa pa qb pb Fa Fb na nb ma mb) (id : Int) :
    Calls Try.prog 25 #[.pointer (some ⟨qa, 0, none⟩), .int .i64 id] w fun e w' => e = .returned (.bool (ma.any fun d => d.2 == id)) ∧ ∃ Fa', PP w0 w' qa pa qb pb Fa' Fb na nb (ma.filter fun d => !(d.2 == id)) mb :=
  (h.a.drop id).mono fun _ _ ⟨he, F', hW, hF, hf⟩ => ⟨he, F', h.turn hW hF hf⟩

/-- What waits: j jobs, numbered below j, each at its time and fifteen ticks. -/
structure FewL (ys : List Int) (m : List (Int × Int)) (j : Nat) : Prop where
  len : m.length = j
  at_ : ∀ d ∈ m, ∃ q : Nat, ∃ h : q < ys.length, d.2 = (q : Int) ∧ q < j ∧ d.1 = ys[q] + 15
  all : ∀ q : Nat, q < j → ∃ d ∈ m, d.2 = (q : Int)

theorem FewL.add {ys : List Int} {m : List (Int × Int)} {j : Nat} (h : FewL ys m j) (hj : j < ys.length) : FewL ys (ins (ys[j] + 15, (j : Int)) m) (j + 1) where
  len := by rw [(ins_perm _ _).length_eq]; simp [h.len]
  at_ := fun d hd => by
    rcases List.mem_cons.1 ((ins_perm _ _).mem_iff.1 hd) with rfl | hd
    · exact ⟨j, hj, rfl, by omega, rfl⟩
    · obtain ⟨q, hq, e, hl, ht⟩ := h.at_ d hd
      exact ⟨q, hq, e, by omega, ht⟩
  all := fun q hq => by
    rcases Nat.lt_or_ge q j with h' | h'
    · obtain ⟨d, hd, e⟩ := h.all q h'
      exact ⟨d, (ins_perm _ _).mem_iff.2 (List.mem_cons_of_mem _ hd), e⟩
    · obtain rfl : q = j := by omega
      exact ⟨_, (ins_perm _ _).mem_iff.2 List.mem_cons_self, rfl⟩

theorem FewL.addM {ys : List Int} {m m' : List (Int × Int)} {j : Nat} (h : FewL ys m j) (hj : j < ys.length) (hys : 0 ≤ ys[j] ∧ ys[j] ≤ 255) (hj2 : j < 200) (hs : ∀ d ∈ m', d ∈ m) (hl : m'.length ≤ m.length) :
    Go.Proofs.Ythmbbbdnfgefbaa.addM 0 ((200 : Nat) : Int) m' (ys[j] + 15, (j : Int)) = (0, ins (ys[j] + 15, (j : Int)) m') := by
  have hany : (m'.any fun x => x.2 == (j : Int)) = false := List.any_eq_false.2 fun d hd => by
    obtain ⟨q, _, e, hq, _⟩ := h.at_ d (hs d hd)
    simp; omega
  unfold Go.Proofs.Ythmbbbdnfgefbaa.addM
  rw [if_neg (by simp; omega), if_neg (by rw [hany]; simp), if_neg (by have := h.len; omega)]

/-- Not of the dropped kind. -/
def kindB (K : Int) (d : Int × Int) : Bool := !(d.2 % 7 == K)

/-- What is left of the dropped kind from k on, and all others. -/
def dropB (K : Int) (k : Nat) (d : Int × Int) : Bool := !(d.2 % 7 == K && decide (d.2 < (k : Int)))
theorem dropB_zero {ys : List Int} {m : List (Int × Int)} {j : Nat} (h : FewL ys m j) (K : Int) : m.filter (dropB K 0) = m := List.filter_eq_self.2 fun d hd => by
  obtain ⟨q, _, e, _⟩ := h.at_ d hd
  unfold dropB
  have : decide (d.2 < ((0 : Nat) : Int)) = false := by simp; omega
  rw [this]; simp
theorem dropB_end {ys : List Int} {m : List (Int × Int)} {j : Nat} (h : FewL ys m j) (K : Int) : m.filter (dropB K j) = m.filter (kindB K) := List.filter_congr fun d hd => by
  obtain ⟨q, _, e, hq, _⟩ := h.at_ d hd
  unfold dropB kindB
  have : decide (d.2 < (j : Int)) = true := by simp; omega
  rw [this]; simp
theorem dropB_yes (m : List (Int × Int)) {K : Int} {k : Nat} (hk : (k : Int) % 7 = K) : (m.filter (dropB K k)).filter (fun d => !(d.2 == (k : Int))) = m.filter (dropB K (k + 1)) := by
  rw [List.filter_filter]
  apply List.filter_congr
  intro d _
  unfold dropB
  by_cases e : d.2 = (k : Int)
  · have h1 : decide (d.2 < ((k + 1 : Nat) : Int)) = true := by simp; omega
    rw [h1, e, hk]; simp
  · have h1 : decide (d.2 < ((k + 1 : Nat) : Int)) = decide (d.2 < (k : Int)) := by rw [decide_eq_decide]; omega
    rw [h1]
    have : (d.2 == (k : Int)) = false := by simpa using e
    rw [this]; simp
theorem dropB_no (m : List (Int × Int)) {K : Int} {k : Nat} (hk : ¬ (k : Int) % 7 = K) : m.filter (dropB K k) = m.filter (dropB K (k + 1)) := by
  apply List.filter_congr
  intro d _
  unfold dropB
  by_cases e : d.2 = (k : Int)
  · have : (d.2 % 7 == K) = false := by rw [e]; simpa using hk
    rw [this]; rfl
  · have h1 : decide (d.2 < ((k + 1 : Nat) : Int)) = decide (d.2 < (k : Int)) := by rw [decide_eq_decide]; omega
    rw [h1]
theorem dropB_any {ys : List Int} {m : List (Int × Int)} {j k : Nat} (h : FewL ys m j) (K : Int) (hk : k < j) : ((m.filter (dropB K k)).any fun d => d.2 == (k : Int)) = true := by
  obtain ⟨d, hd, e⟩ := h.all k hk
  refine List.any_eq_true.2 ⟨d, List.mem_filter.2 ⟨hd, ?_⟩, by simp [e]⟩
  unfold dropB
  have : decide (d.2 < (k : Int)) = false := by simp; omega
  rw [this]; simp

set_option maxHeartbeats 8000000 in
set_option maxRecDepth 100000 in
theorem pdrops_walk (a0 : Option Addr) (n0 c0 : Nat) (ys : List Int) (D t : Int) (w : World)
    (h1 : U8In w.heap.size w a0 n0 ys) (l1 : n0 ≤ 9223372036854775807) (r1 : ∀ z ∈ ys, (Lit.int .u8 z).wf = true) (rD : (Lit.int .u8 D).wf = true) (rt : (Lit.int .u16 t).wf = true) :
    Calls Try.prog 11 #[.slice a0 n0 c0, .int .u8 D, .int .u16 t] w fun e w' => e = .returned (.bool true) ∧ Below w.heap.size w w' := by
  have hys : ∀ j (h : j < ys.length), 0 ≤ ys[j] ∧ ys[j] ≤ 255 := fun j hj => u8_bd (r1 _ (List.getElem_mem hj))
  have Hys := Lib.hid hys
  obtain ⟨D0, D1⟩ := u8_bd rD
  have ht : 0 ≤ t ∧ t ≤ 65535 := by
    simp [Lit.wf] at rt
    have e1 : IntKind.u16.min = 0 := rfl
    have e2 : IntKind.u16.max = 65535 := rfl
    omega
  obtain ⟨t0, t1⟩ := ht
  have hlen := h1.1
  clear r1 hys rD rt
  by_cases hbig : 100 < n0
  · go_enter Try.func11, Try.ntmps11
    go_wp2_with fail
    refine (pawake_any _).mono ?_
    rintro e w1 ⟨rfl, hb1⟩
    go_wp2_with fail
    refine (pawake_any _).mono ?_
    rintro e w2 ⟨rfl, hb2⟩
    go_wp2_with fail
    go_ret
    exact ⟨rfl, hb1.trans (hb2.mono hb1.size)⟩
  · have hn0 : n0 ≤ 100 := by omega
    go_enter Try.func11, Try.ntmps11
    go_wp2_with fail
    refine (pawake_any _).mono ?_
    rintro e w1 ⟨rfl, hb1⟩
    go_wp2_with fail
    refine (PX.new hb1 200 (by omega) (by omega)).mono ?_
    rintro e w2 ⟨qa, pa, Fa, rfl, h2, hFa, hqa, hb2⟩
    go_wp2_with fail
    refine (PX.new h2.bel 200 (by omega) (by omega)).mono ?_
    rintro e w3 ⟨qb, pb, Fb, rfl, h3, hFb, hqb, hb3⟩
    have hPP : PP w w3 qa pa qb pb Fa Fb 0 0 [] [] := ⟨h2.below hb3, h3, fun k ha hb => by have := (h2.a.flt k ha).1; have := hFb k hb; omega, fun hk => by have := hFb _ hk; have := h2.lt; omega, fun hk => by have := (h2.a.flt _ hk).1; omega⟩
    clear h2 h3 hFa hFb hqa hqb hb1 hb2 hb3
    go_wp2_with fail
    go_loopw [11] (fun i wr => ∃ (j : Nat) (m : List (Int × Int)) (Fa Fb : Nat → Prop), j ≤ n0 ∧ i = .int .i64 j ∧ PP w wr qa pa qb pb Fa Fb 0 0 m (m.filter (kindB (D % 7))) ∧ Hid (FewL ys m j)) (fun i _ => n0 - (intOf i).toNat)
    case atStart => exact ⟨0, [], Fa, Fb, Nat.zero_le _, rfl, hPP, ⟨rfl, by simp, by omega⟩⟩
    case round =>
      clear hPP
      obtain ⟨j, m, Fa, Fb, hj, rfl, hW, HF⟩ := hrel
      by_cases hlt : j < n0
      · obtain ⟨hyl, hy⟩ := h1.keep hW.a.bel
        obtain ⟨b, off, rfl, hbB, hcc⟩ := hy (by omega)
        have hcell := hcc j (by omega)
        have hyb := Hys.out j (by omega)
        have E2 := Lib.hid (HF.out.add (by omega))
        have EA := HF.out.addM (m' := m) (by omega) hyb (by omega) (fun d hd => hd) (Nat.le_refl _)
        have EB := HF.out.addM (m' := m.filter (kindB (D % 7))) (by omega) hyb (by omega) (fun d hd => (List.mem_filter.1 hd).1) (List.length_filter_le _ _)
        have hsrt := hW.a.a.srt
        have hnot : (ys[j] + 15, (j : Int)) ∉ m := fun hd => by
          obtain ⟨q, _, e, hq, _⟩ := HF.out.at_ _ hd
          simp at e; omega
        have hI1 : kindB (D % 7) (ys[j] + 15, (j : Int)) = true → (ins (ys[j] + 15, (j : Int)) m).filter (kindB (D % 7)) = ins (ys[j] + 15, (j : Int)) (m.filter (kindB (D % 7))) := fun h => ins_filter _ hsrt hnot h
        have hI2 : ¬ kindB (D % 7) (ys[j] + 15, (j : Int)) = true → (ins (ys[j] + 15, (j : Int)) m).filter (kindB (D % 7)) = m.filter (kindB (D % 7)) := fun h => ins_filter_out _ h
        generalize ys[j] = y at *
        obtain ⟨y0, y1⟩ := hyb
        have hWA : ∀ (mm : List (Int × Int)), addM 0 ((200 : Nat) : Int) mm (y + 15, (j : Int)) = (0, ins (y + 15, (j : Int)) mm) → waitM 0 ((200 : Nat) : Int) mm (j : Int) y 20 5 = (y + 15, 0, ins (y + 15, (j : Int)) mm) := by
          intro mm e
          have := waitM_ok (now := 0) (room := ((200 : Nat) : Int)) (m := mm) (id := (j : Int)) (release := y) (d := 20) (r := 5) (by omega) (by omega) y0 (by omega) (by rw [show y + (20 - 5) = y + 15 by omega, e])
          rw [this, show y + (20 - 5) = y + 15 by omega, e]
        have hA := Lib.hid (hW.waitA (x := y + 15) (y := 0) (by omega) (hWA m EA))
        have hWB := Lib.hid (hWA _ EB)
        have HI1 := Lib.hid hI1
        have HI2 := Lib.hid hI2
        have H1 := Lib.hid h1
        have HC := Lib.hid hcell
        clear h1 hy hcc EA EB hWA hI1 hI2 hnot hsrt
        have hjI : (j : Int) < (n0 : Int) := by omega
        have hbw : b < wr.heap.size := by have := hW.a.bel.size; omega
        by_cases hk : (j : Int) % 7 = D % 7
        · have hkb : ((j : Int) % 7 != D % 7) = false := by simp [hk]
          have e0 := HI2.out (by simp [kindB, hk])
          have E0 := Lib.hid e0
          clear hk e0
          go_wp2_with fail
          refine hA.out.mono ?_
          rintro e w4 ⟨rfl, Fa4, h4⟩
          go_wp2_with fail
          go_roundw
          case rel => exact ⟨j + 1, _, Fa4, Fb, by omega, by go_num, by rw [E0.out]; exact h4, E2⟩
          case measure => simp [intOf]; omega
        · have hkb : ((j : Int) % 7 != D % 7) = true := by simpa using hk
          have e0 := HI1.out (by simp [kindB, hk])
          have E0 := Lib.hid e0
          clear hk e0
          go_wp2_with fail
          refine hA.out.mono ?_
          rintro e w4 ⟨rfl, Fa4, h4⟩
          have hcell4 : w4.cell? ⟨b, off + j, none⟩ = some (.int .u8 y) := by
            have hx := h4.a.bel.cell (p := ⟨b, off + j, none⟩) hbB
            have hy := hW.a.bel.cell (p := ⟨b, off + j, none⟩) hbB
            rw [hx, ← hy]; exact HC.out
          have hB := Lib.hid (h4.swap.waitA (x := y + 15) (y := 0) (by omega) hWB.out)
          clear hcell
          go_wp2_with fail
          refine hB.out.mono ?_
          rintro e w5 ⟨rfl, Fb5, h5⟩
          go_wp2_with fail
          go_roundw
          case rel => exact ⟨j + 1, _, Fa4, Fb5, by omega, by go_num, by rw [E0.out]; exact h5.swap, E2⟩
          case measure => simp [intOf]; omega
      · obtain rfl : j = n0 := by omega
        go_wp2_with fail
        have HZ := Lib.hid (dropB_zero HF.out (D % 7))
        have HE := Lib.hid (dropB_end HF.out (D % 7))
        have HW := Lib.hid hW
        clear hW
        go_loopw [12] (fun i wr => ∃ (k : Nat) (Fa : Nat → Prop), k ≤ j ∧ i = .int .i64 k ∧ PP w wr qa pa qb pb Fa Fb 0 0 (m.filter (dropB (D % 7) k)) (m.filter (kindB (D % 7)))) (fun i _ => j - (intOf i).toNat)
        case atStart => exact ⟨0, Fa, Nat.zero_le _, rfl, by rw [HZ.out]; exact HW.out⟩
        case round =>
          clear HW HZ
          obtain ⟨k, Fa, hk, rfl, hW⟩ := hrel
          by_cases hkj : k < j
          · have hkI : (k : Int) < (j : Int) := by omega
            by_cases hkK : (k : Int) % 7 = D % 7
            · have hA := hW.dropA (k : Int)
              rw [dropB_any HF.out (D % 7) hkj, dropB_yes m hkK] at hA
              have HA := Lib.hid hA
              have hkb : ((k : Int) % 7 == D % 7) = true := by simp [hkK]
              clear hA hkK hW
              go_wp2_with fail
              refine HA.out.mono ?_
              rintro e w4 ⟨rfl, Fa4, h4⟩
              go_wp2_with fail
              go_roundw
              case rel => exact ⟨k + 1, Fa4, by omega, by go_num, h4⟩
              case measure => simp [intOf]; omega
            · have hkb : ((k : Int) % 7 == D % 7) = false := by simpa using hkK
              rw [dropB_no m hkK] at hW
              have HW := Lib.hid hW
              clear hkK hW
              go_wp2_with fail
              go_roundw
              case rel => exact ⟨k + 1, Fa, by omega, by go_num, HW.out⟩
              case measure => simp [intOf]; omega
          · obtain rfl : k = j := by omega
            rw [HE.out] at hW
            have Hat := Lib.hid (fun d (hd : d ∈ (m.filter (kindB (D % 7))).filter fun d => decide (d.1 ≤ t)) => (⟨HF.out.at_ d (List.mem_filter.1 (List.mem_filter.1 hd).1).1, by simpa using (List.mem_filter.1 hd).2⟩ : (∃ q : Nat, ∃ h : q < ys.length, d.2 = (q : Int) ∧ q < k ∧ d.1 = ys[q] + 15) ∧ d.1 ≤ t))
            generalize m.filter (kindB (D % 7)) = M at *
            have hVA := Lib.hid (hW.a.adv t (by omega) (by omega))
            have hlX : (M.filter fun d => decide (d.1 ≤ t)).length ≤ 200 := Nat.le_trans (List.length_filter_le _ _) (by have := hW.a.a.len; omega)
            have HbF := Lib.hid (fun k hk => (hW.b.a.flt k hk).1)
            have hsw := hW.a.bel.size
            have HW := Lib.hid hW
            clear hW HE
            go_wp2_with fail
            refine hVA.out.mono ?_
            rintro e w4 ⟨v4, Fa4, rfl, hx, h4, hF4, hv4, hf4⟩
            have hP4 := HW.out.turn h4 hF4 hf4
            have hVB := Lib.hid (hP4.b.adv t (by omega) (by omega))
            obtain ⟨a4, c4, rfl⟩ := ownsRow_form hx
            have Hx := Lib.hid hx
            have HP4 := Lib.hid hP4
            clear hVA hx h4 hF4 hv4 hf4 hP4 HW
            go_wp2_with fail
            refine hVB.out.mono ?_
            rintro e w5 ⟨v5, Fb5, rfl, hy, h5, hF5, hv5, hf5⟩
            have hP5 := HP4.out.swap.turn h5 hF5 hf5
            have hx5 : w5.ownsRow wr.heap.size 3 1 (.slice a4 (M.filter fun d => decide (d.1 ≤ t)).length c4) (M.filter fun d => decide (d.1 ≤ t)).length ((M.filter fun d => decide (d.1 ≤ t)).map fun d => intC d.2) :=
              ownsRow_keep Hx.out fun g hg => hf5.block g (ownsRow_lt Hx.out g hg) fun hk => by have h1 := HbF.out g hk; have h2 := ownsRow_block Hx.out g hg; omega
            obtain ⟨a5, c5, rfl⟩ := ownsRow_form hy
            have hX : Hid (∀ i (h : i < (M.filter fun d => decide (d.1 ≤ t)).length), ∃ g1 g2, a4 = some ⟨g1, 0, none⟩ ∧ a5 = some ⟨g2, 0, none⟩ ∧ w5.cell? ⟨g1, i, none⟩ = some (.int .i64 (M.filter fun d => decide (d.1 ≤ t))[i].2) ∧ w5.cell? ⟨g2, i, none⟩ = some (.int .i64 (M.filter fun d => decide (d.1 ≤ t))[i].2)) := by
              intro i hi
              obtain ⟨g1, _, hv1, _, _, _, hc1, _⟩ := ownsRow_cells hx5 (by omega)
              obtain ⟨g2, _, hv2, _, _, _, hc2, _⟩ := ownsRow_cells hy (by omega)
              simp only [Value.slice.injEq] at hv1 hv2
              exact ⟨g1, g2, hv1.1, hv2.1, hc1 i _ (by simp [intC, hi]), hc2 i _ (by simp [intC, hi])⟩
            have hWa := Lib.hid hP5.b.waiting
            have hWb := Lib.hid hP5.a.waiting
            have hb5 := hP5.a.bel
            clear hVB hy hx5 h5 hF5 hv5 hf5 hP5 HP4 Hx
            generalize (M.filter fun d => decide (d.1 ≤ t)) = X at *
            go_wp2_with fail
            refine hWa.out.mono ?_
            rintro e w6 ⟨rfl, rfl⟩
            go_wp2_with fail
            refine hWb.out.mono ?_
            rintro e w6 ⟨rfl, rfl⟩
            clear hWa hWb
            go_wp2_with fail
            go_loopw [17] (fun si wr => ∃ i : Nat, i ≤ X.length ∧ si = .int .i64 i ∧ Below w5.heap.size w5 wr) (fun si _ => X.length - (intOf si).toNat)
            case atStart => exact ⟨0, Nat.zero_le _, rfl, Below.refl _ _⟩
            case round =>
              obtain ⟨i, hi, rfl, hb6⟩ := hrel
              by_cases hiX : i < X.length
              · obtain ⟨g1, g2, rfl, rfl, cx, cy⟩ := hX.out i hiX
                obtain ⟨⟨q, hq, e, hqk, ht⟩, hle⟩ := Hat.out X[i] (List.getElem_mem hiX)
                rw [e] at cx cy
                rw [ht] at hle
                obtain ⟨hyl, hy⟩ := h1.keep (hb5.trans (hb6.mono hb5.size))
                obtain ⟨b, off, rfl, hbB, hcc⟩ := hy (by omega)
                have hcell := hcc q hq
                have hyb := Hys.out q hq
                generalize ys[q] = y at *
                obtain ⟨y0, y1⟩ := hyb
                have cx6 : wr.cell? ⟨g1, i, none⟩ = some (.int .i64 q) := (hb6.cell (p := ⟨g1, i, none⟩) (block_lt (a := ⟨g1, i, none⟩) cx)).trans cx
                have cy6 : wr.cell? ⟨g2, i, none⟩ = some (.int .i64 q) := (hb6.cell (p := ⟨g2, i, none⟩) (block_lt (a := ⟨g2, i, none⟩) cy)).trans cy
                have hiI : (i : Int) < (X.length : Int) := by omega
                have hqI : (q : Int) < (k : Int) := by omega
                have hq0 : (0 : Int) ≤ (q : Int) := by omega
                have H1 := Lib.hid h1
                have HB6 := Lib.hid hb6
                clear h1 hy hcc cx cy e ht hb6
                go_wp2_with fail
                go_quiet (fail)
                go_wp2_with fail
                go_roundw
                case rel => exact ⟨i + 1, by omega, by go_num, HB6.out.trans ⟨rfl, rfl, rfl, Nat.le_refl _, fun _ _ => rfl⟩⟩
                case measure => simp [intOf]; omega
              · go_wp2_with fail
                go_ret
                exact ⟨rfl, hb5.trans (hb6.mono hb5.size)⟩
end Go.Proofs.Ythmbbbdnfgefbaa
