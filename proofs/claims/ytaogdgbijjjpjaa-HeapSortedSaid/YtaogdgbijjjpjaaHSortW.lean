/- HeapSorted: the walk. -/
import Derived.Test.YtaogdgbijjjpjaaHKeepsW
import Derived.Test.YtaogdgbijjjpjaaTwoH
namespace Go.Proofs.Ytaogdgbijjjpjaa
open Go.RowKit
set_option linter.unusedVariables false

theorem idx_in {l : List Q} {id r : Int} (h : Idx (fun x => x.2.2.2 == id) l r) (hx : ∃ x ∈ l, x.2.2.2 = id) : decide (r < 0) = false := by
  have := h.any
  have ha : (l.any fun x => x.2.2.2 == id) = true := by obtain ⟨x, h1, h2⟩ := hx; exact List.any_eq_true.2 ⟨x, h1, by simp [h2]⟩
  rw [ha] at this
  have : 0 ≤ r := by simpa using this
  exact decide_eq_false (by omega)
theorem idx_out {l : List Q} {id r : Int} (h : Idx (fun x => x.2.2.2 == id) l r) (hx : ∀ x ∈ l, x.2.2.2 ≠ id) : r = -1 := by
  rcases h with ⟨h, _⟩ | ⟨q, hq, _, hp, _⟩
  · exact h
  · exact absurd (by simpa using hp) (hx _ (List.getElem_mem hq))

/-- What lies is a key's slice in whatever world has come of this one. -/
theorem find_below {B : Nat} {a : Option Addr} {n c : Nat} {l : List Q} {w W : World} (hx : QsIn B w a n l) (hB : B ≤ w.heap.size) (hb : Below B w W) (hn : n ≤ 9223372036854775807) (id : Int) :
    Calls Try.prog 24 #[.slice a n c, .int .i64 id] W fun e w' => (∃ r : Int, e = .returned (.int .i64 r) ∧ Idx (fun x => x.2.2.2 == id) l r) ∧ Below W.heap.size W w' :=
  find_any B a n c l id W (hx.keep hb) (Nat.le_trans hB hb.size) hn

theorem srt_last {pre rest : List Q} {x : Q} (h : SrtK (pre ++ x :: rest)) (i : Nat) (hi : i < pre.length) : cmpK pre[i] x < 0 := by
  have := (List.pairwise_append.1 h).2.2 pre[i] (List.getElem_mem hi) x (List.mem_cons_self ..)
  unfold ltK at this
  simpa using this
theorem nod_out {pre rest : List Q} {x : Q} (h : ((pre ++ x :: rest).map (·.2.2.2)).Nodup) : ∀ y ∈ pre, y.2.2.2 ≠ x.2.2.2 := by
  intro y hy e
  rw [List.map_append, List.map_cons, List.nodup_append] at h
  exact h.2.2 _ (List.mem_map.2 ⟨y, hy, rfl⟩) _ (List.mem_cons_self ..) e

/-- What stands in the round's test. -/
structure RdT (w0 : World) (bx : Nat) (k0 k1 k2 k3 : Int) (g o : Nat) (y0 y1 y2 y3 : Int) (W : World) : Prop where
  k : C4 W bx k0 k1 k2 k3
  c0 : W.cell? ⟨g, o, none⟩ = some (.int .i64 y0)
  c1 : W.cell? ⟨g, o + 1, none⟩ = some (.int .i64 y1)
  c2 : W.cell? ⟨g, o + 2, none⟩ = some (.int .i64 y2)
  c3 : W.cell? ⟨g, o + 3, none⟩ = some (.int .i64 y3)
  bel : Below w0.heap.size w0 W

/-- Behind the append. -/
theorem after6 {w w2 w6 : World} {p : Nat} {F : Nat → Prop} {pre rest : List Q} {n co gg cap6 B : Nat} {ao : Option Addr} {k : Q} (HL : pre.length = n) (h5 : HO w w2 p 1024 F rest) (ho5 : w2.ownsRow w.heap.size 23 4 (.slice ao n co) n (pre.flatMap qc)) (hF : ∀ k, (Value.slice ao n co).ownBlock = some k → ¬ F k)
    (hown6 : w6.ownsRow w.heap.size 23 4 (.slice (some ⟨gg, 0, none⟩) (n + 1) cap6) (n + 1) (pre.flatMap qc ++ qc k)) (hgrow6 : w2.grownBy w6 (Value.slice ao n co).ownBlock) (hat6 : (Value.slice ao n co).ownBlock = some gg ∨ gg = B) (hB : w2.heap.size ≤ B) :
    HO w w6 p 1024 F rest ∧ Hid (w6.ownsRow w.heap.size 23 4 (.slice (some ⟨gg, 0, none⟩) (n + 1) cap6) (n + 1) ((pre ++ [k]).flatMap qc)) ∧ Hid (∀ k, (Value.slice (some ⟨gg, 0, none⟩) (n + 1) cap6).ownBlock = some k → ¬ F k) := by
  have hfg : Fr (fun j => (Value.slice ao n co).ownBlock = some j) w2 w6 := Fr.grown (Fr.refl _ _) hgrow6 (fun g hg _ => hg)
  refine ⟨⟨h5.a.keep hfg (fun k hk e => hF k e hk), h5.bel.grown hgrow6 h5.bel.size (fun k e => ownsRow_block ho5 k e)⟩, ?_, ?_⟩
  · show World.ownsRow _ _ _ _ _ _ _
    rw [List.flatMap_append]
    simpa using hown6
  · intro k hk hFk
    rcases hat6 with e | e
    · simp only [Value.ownBlock, Option.some.injEq] at hk; subst hk; exact hF _ e hFk
    · simp only [Value.ownBlock, Option.some.injEq] at hk; subst hk; have := (h5.a.flt _ hFk).1; omega

set_option maxHeartbeats 8000000 in
set_option maxRecDepth 100000 in
theorem hsorted_walk (a0 : Option Addr) (n0 c0 : Nat) (ys : List Q) (w : World) (h1 : QsIn w.heap.size w a0 n0 ys) (l1 : n0 ≤ 9223372036854775807) :
    Calls Try.prog 7 #[.slice a0 n0 c0] w fun e w' => e = .returned (.bool true) ∧ Below w.heap.size w w' := by
  by_cases hbig : 300 < n0
  · go_enter Try.func7, Try.ntmps7
    go_wp2_with fail
    refine (hawake_any _).mono ?_
    rintro e w1 ⟨rfl, hb1⟩
    go_wp2_with fail
    refine (hawake_any _).mono ?_
    rintro e w2 ⟨rfl, hb2⟩
    go_wp2_with fail
    go_ret
    exact ⟨rfl, hb1.trans (hb2.mono hb1.size)⟩
  · have hn0 : n0 ≤ 300 := by omega
    have hys := h1.1
    have HI := Lib.hid h1
    go_enter Try.func7, Try.ntmps7
    go_wp2_with fail
    refine (hawake_any _).mono ?_
    rintro e w1 ⟨rfl, hb1⟩
    go_wp2_with fail
    refine (HO.new hb1 1024 (by omega) (by omega)).mono ?_
    rintro e w2 ⟨p, F2, rfl, h2, _, _⟩
    go_wp2_with fail
    go_loopw [5, 6] (fun sn si wr => ∃ (j : Nat) (m : List Q) (F : Nat → Prop), j ≤ n0 ∧ si = .int .i64 j ∧ sn = .int .i64 m.length ∧ m.length ≤ j ∧ HO w wr p 1024 F m ∧ Hid (∀ x ∈ m, x ∈ ys)) (fun _ si _ => n0 - (intOf si).toNat)
    case atStart => exact ⟨0, [], F2, Nat.zero_le _, rfl, rfl, Nat.le_refl _, h2, by intro x hx; simp at hx⟩
    case round =>
      clear h2 hb1
      obtain ⟨j, m, F, hj, rfl, rfl, hmj, hW, HM⟩ := hrel
      by_cases hlt : j < n0
      · obtain ⟨hyl, hy⟩ := h1.keep hW.bel
        obtain ⟨b, off, rfl, hbB, hcc⟩ := hy (by omega)
        obtain ⟨c0, c1, c2, c3⟩ := hcc j (by omega)
        have HYm : Hid (ys[j] ∈ ys) := List.getElem_mem (by omega)
        generalize ys[j] = yj at *
        obtain ⟨x0, x1, x2, x3⟩ := yj
        simp only at c0 c1 c2 c3
        clear h1 hy hcc
        have hjI : (j : Int) < (n0 : Int) := by omega
        by_cases hany : (m.any fun x => x.2.2.2 == x3) = true
        · have hA := Lib.hid (hW.push (a := x0) (b := x1) (c := x2) (d := x3) (r := 7) (m' := m) (pushM_some hany))
          clear hany
          go_wp2_with fail
          refine hA.out.mono ?_
          rintro e w3 ⟨rfl, F3, h3, _, _⟩
          go_wp2_with fail
          go_roundw
          case rel => exact ⟨j + 1, m, F3, by omega, by go_num, rfl, by omega, h3, HM⟩
          case measure => simp [intOf]; omega
        · have hA := Lib.hid (hW.push (a := x0) (b := x1) (c := x2) (d := x3) (r := 0) (m' := insK (x0, x1, x2, x3) m) (pushM_new (by cases h : (m.any fun x => x.2.2.2 == x3) with | false => rfl | true => exact absurd h hany) (by omega)))
          have hlen : (insK (x0, x1, x2, x3) m).length = m.length + 1 := by rw [(insK_perm _ _).length_eq]; rfl
          have HM2 : Hid (∀ x ∈ insK (x0, x1, x2, x3) m, x ∈ ys) := by
            intro x hx
            rcases List.mem_cons.1 ((insK_perm _ _).mem_iff.1 hx) with rfl | hx
            · exact HYm.out
            · exact HM.out x hx
          generalize insK (x0, x1, x2, x3) m = m2 at *
          clear hany
          go_wp2_with fail
          refine hA.out.mono ?_
          rintro e w3 ⟨rfl, F3, h3, _, _⟩
          go_wp2_with fail
          go_roundw
          case rel => exact ⟨j + 1, m2, F3, by omega, by go_num, by rw [hlen]; go_num, by omega, h3, HM2⟩
          case measure => simp [intOf]; omega
      · have HS := Lib.hid hW.a.srt
        have HD := Lib.hid hW.a.ids
        have hm3 : m.length ≤ 300 := by omega
        clear h1
        go_wp2_with fail
        go_loopw [7, 8] (fun sv si wx => ∃ (n : Nat) (ii : Int) (pre rest : List Q), ii = (n : Int) ∧ n ≤ m.length ∧ si = .int .i64 ii ∧ HO w wx p 1024 F rest ∧ Hid (pre.length = n) ∧ Hid (pre ++ rest = m) ∧ Hid (wx.ownsRow w.heap.size 23 4 sv n (pre.flatMap qc)) ∧ Hid (∀ k, sv.ownBlock = some k → ¬ F k)) (fun _ si _ => m.length - (intOf si).toNat)
        case atStart => exact ⟨0, 0, [], m, rfl, Nat.zero_le _, rfl, hW, rfl, rfl, World.ownsRow_nil _ _ _ _, by intro k hk; simp [Value.ownBlock] at hk⟩
        case round =>
          clear hW
          obtain ⟨n, ii, pre, rest, hii, hpl, rfl, hX, HL, HPR, HOut, HFv⟩ := hrel
          by_cases hpm : n < m.length
          · obtain ⟨x, rest, rfl⟩ : ∃ x r, rest = x :: r := by
              cases rest with
              | nil => have := HPR.out; rw [List.append_nil] at this; subst this; have := HL.out; omega
              | cons x r => exact ⟨x, r, rfl⟩
            obtain ⟨ao, co, rfl⟩ := ownsRow_form HOut.out
            have hP := Lib.hid (pop_m hX.a)
            have HX := Lib.hid hX
            have Hm : Hid (x ∈ m) := by show _ ∈ _; rw [← HPR.out]; simp
            have Hxin : Hid (∃ y ∈ ys, y.2.2.2 = x.2.2.2) := ⟨x, HM.out x Hm.out, rfl⟩
            have Hxout : Hid (∀ y ∈ pre, y.2.2.2 ≠ x.2.2.2) := nod_out (by rw [HPR.out]; exact HD.out)
            have Hlast : Hid (∀ i (h : i < pre.length), cmpK pre[i] x < 0) := fun i h => srt_last (by rw [HPR.out]; exact HS.out) i h
            obtain ⟨k0, k1, k2, k3⟩ := x
            unfold peekM qv at hP
            simp only at hP
            have hpI : ii < (m.length : Int) := by omega
            clear hX
            go_wp2_with fail
            refine hP.out.mono ?_
            rintro e w3 ⟨rfl, hH3, hf3⟩
            have h3 := HX.out.turn hH3 hf3
            have ho3 := ownsRow_keep (w' := w3) HOut.out fun k hk => hf3.block k (ownsRow_lt HOut.out k hk) (HFv.out k hk)
            have h4 := h3.below ((Below.refl _ w3).alloc (Nat.le_refl _) (.cells #[.int .i64 k0, .int .i64 k1, .int .i64 k2, .int .i64 k3] 23))
            have ho4 := ownsRow_keep (w' := w3.alloc (.cells #[.int .i64 k0, .int .i64 k1, .int .i64 k2, .int .i64 k3] 23)) ho3 fun k hk => ((Below.refl _ w3).alloc (Nat.le_refl _) (.cells #[.int .i64 k0, .int .i64 k1, .int .i64 k2, .int .i64 k3] 23)).block k (ownsRow_lt ho3 k hk)
            have hk4 := C4.new w3 w3.heap.size k0 k1 k2 k3 23 rfl
            have H4 := Lib.hid h4
            have HO4 := Lib.hid ho4
            have HK4 := Lib.hid hk4
            have HO4' : Hid ((w3.alloc (.cells #[.int .i64 k0, .int .i64 k1, .int .i64 k2, .int .i64 k3] 23)).ownsRow w.heap.size 23 4 (.slice ao n co) pre.length (pre.flatMap qc)) := by rw [HL.out]; exact ho4
            clear h3 ho3 h4 ho4 hk4 hH3 hf3 hP HX HOut
            go_upto_region 17 with fail
            generalize w3.alloc (.cells #[.int .i64 k0, .int .i64 k1, .int .i64 k2, .int .i64 k3] 23) = w4 at *
            generalize w3.heap.size = bx at *
            have hbr : Below w4.heap.size w4 w4 := Below.refl _ _
            have HFl : Hid (∀ W, Below w4.heap.size w4 W → Calls Try.prog 24 #[.slice a0 n0 c0, .int .i64 k3] W fun e w' => ∃ r : Int, e = .returned (.int .i64 r) ∧ decide (r < 0) = false ∧ Below w4.heap.size w4 w') := by
              intro W hb
              refine (find_any w.heap.size a0 n0 c0 ys k3 W (HI.out.keep (H4.out.bel.trans (hb.mono H4.out.bel.size))) (Nat.le_trans H4.out.bel.size hb.size) l1).mono ?_
              rintro e w' ⟨⟨r, rfl, hr⟩, hb'⟩
              exact ⟨r, rfl, idx_in hr Hxin.out, hb.trans (hb'.mono hb.size)⟩
            have HFo : Hid (∀ W, Below w4.heap.size w4 W → Calls Try.prog 24 #[.slice ao n co, .int .i64 k3] W fun e w' => e = .returned (.int .i64 (-1)) ∧ Below w4.heap.size w4 w') := by
              intro W hb
              refine (find_any w4.heap.size ao n co pre k3 W ((qs_of_own HO4'.out HL.out.symm).keep hb) hb.size (by omega)).mono ?_
              rintro e w' ⟨⟨r, rfl, hr⟩, hb'⟩
              exact ⟨by rw [idx_out hr Hxout.out], hb.trans (hb'.mono hb.size)⟩
            rcases n with _ | pp
            · obtain rfl : ii = 0 := hii
              have HK : Hid (∀ W, Below w4.heap.size w4 W → RdT w4 bx k0 k1 k2 k3 bx 0 k0 k1 k2 k3 W) := fun W hb => ⟨HK4.out.below hb, (HK4.out.below hb).c0, (HK4.out.below hb).c1, (HK4.out.below hb).c2, (HK4.out.below hb).c3, hb⟩
              refine wp_region_held_drew (S := fun w' => (w'.cell? ⟨bx, 0, none⟩ = some (.int .i64 k0) ∧ w'.cell? ⟨bx, 1, none⟩ = some (.int .i64 k1) ∧ w'.cell? ⟨bx, 2, none⟩ = some (.int .i64 k2) ∧ w'.cell? ⟨bx, 3, none⟩ = some (.int .i64 k3)) ∧ Below w4.heap.size w4 w') (by kernel_rfl) ?hS1 (fun hHeld => ?_)
              case hS1 => (try dsimp only); (first | (obtain ⟨⟨z0, z1, z2, z3⟩, z4, z5, z6, z7, z9⟩ := HK.out _ (bel_drew hbr); exact ⟨⟨z0, z1, z2, z3⟩, z9⟩) | (obtain ⟨⟨z0, z1, z2, z3⟩, z4, z5, z6, z7, z9⟩ := HK.out _ (by assumption); exact ⟨⟨z0, z1, z2, z3⟩, z9⟩))
              refine wpAnyH_take (i := 0) (oi := { dst := some 54, op := Op.move (Operand.tmp 10), type := 4, pos := "law.go:106", after := #[], guard := none }) (v := ?vv2) rfl (by kernel_rfl) (by kernel_rfl) (by kernel_rfl) (fun _ _ _ h => h) (Or.inl ⟨by rfl, ?hy2⟩) (by assumption) ?hr2
              case hy2 => (intro wS hSw; (try dsimp only at hSw); go_simp; try with_reducible rfl)
              try simp only [Act.put, List.setIfInBounds_toArray, List.set_cons_zero, List.set_cons_succ]
              refine wpAnyH_take (i := 1) (oi := { dst := some 55, op := Op.unOp UnOp.not 4 (Operand.tmp 54), type := 4, pos := "law.go:106", after := #[{ on := 0, ground := Ground.data }], guard := none }) (v := ?vv3) rfl (by kernel_rfl) (by kernel_rfl) (by kernel_rfl) (fun _ _ _ h => h) (Or.inl ⟨by rfl, ?hy3⟩) (by assumption) ?hr3
              case hy3 => (intro wS hSw; (try dsimp only at hSw); go_simp; try with_reducible rfl)
              try simp only [Act.put, List.setIfInBounds_toArray, List.set_cons_zero, List.set_cons_succ]
              refine wpAnyH_take (i := 2) (oi := { dst := some 56, op := Op.move (Operand.tmp 55), type := 4, pos := "law.go:106", after := #[{ on := 1, ground := Ground.data }], guard := none }) (v := ?vv4) rfl (by kernel_rfl) (by kernel_rfl) (by kernel_rfl) (fun _ _ _ h => h) (Or.inl ⟨by rfl, ?hy4⟩) (by assumption) ?hr4
              case hy4 => (intro wS hSw; (try dsimp only at hSw); go_simp; try with_reducible rfl)
              try simp only [Act.put, List.setIfInBounds_toArray, List.set_cons_zero, List.set_cons_succ]
              refine wpAnyH_take (i := 3) (oi := { dst := some 57, op := Op.move (Operand.tmp 8), type := 3, pos := "law.go:106", after := #[{ on := 2, ground := Ground.guard }], guard := some (2, false) }) (v := ?vv5) rfl (by kernel_rfl) (by kernel_rfl) (by kernel_rfl) (fun _ _ _ h => h) (Or.inl ⟨by rfl, ?hy5⟩) (by assumption) ?hr5
              case hy5 => (intro wS hSw; (try dsimp only at hSw); go_simp; try with_reducible rfl)
              try simp only [Act.put, List.setIfInBounds_toArray, List.set_cons_zero, List.set_cons_succ]
              refine wpAnyH_take (i := 4) (oi := { dst := some 58, op := Op.binOp BinOp.gtr 3 (Operand.tmp 57) (Operand.const (Value.int IntKind.i64 0)) 3, type := 4, pos := "law.go:106", after := #[{ on := 3, ground := Ground.data }, { on := 2, ground := Ground.guard }], guard := some (2, false) }) (v := ?vv6) rfl (by kernel_rfl) (by kernel_rfl) (by kernel_rfl) (fun _ _ _ h => h) (Or.inl ⟨by rfl, ?hy6⟩) (by assumption) ?hr6
              case hy6 => (intro wS hSw; (try dsimp only at hSw); go_simp; try with_reducible rfl)
              try simp only [Act.put, List.setIfInBounds_toArray, List.set_cons_zero, List.set_cons_succ]
              refine wpAnyH_take (i := 5) (oi := { dst := some 59, op := Op.move (Operand.tmp 58), type := 4, pos := "law.go:106", after := #[{ on := 4, ground := Ground.data }, { on := 2, ground := Ground.chain }, { on := 2, ground := Ground.guard }], guard := some (2, false) }) (v := ?vv7) rfl (by kernel_rfl) (by kernel_rfl) (by kernel_rfl) (fun _ _ _ h => h) (Or.inl ⟨by rfl, ?hy7⟩) (by assumption) ?hr7
              case hy7 => (intro wS hSw; (try dsimp only at hSw); go_simp; try with_reducible rfl)
              try simp only [Act.put, List.setIfInBounds_toArray, List.set_cons_zero, List.set_cons_succ]
              refine wpAnyH_take (i := 6) (oi := { dst := some 60, op := Op.move (Operand.tmp 7), type := 27, pos := "law.go:106", after := #[{ on := 5, ground := Ground.guard }], guard := some (5, true) }) (v := undef) rfl (by kernel_rfl) (by kernel_rfl) (by kernel_rfl) (fun _ _ _ h => h) (Or.inr ⟨by rfl, rfl⟩) (by assumption) ?_
              try simp only [Act.put, List.setIfInBounds_toArray, List.set_cons_zero, List.set_cons_succ]
              refine wpAnyH_take (i := 7) (oi := { dst := some 61, op := Op.move (Operand.tmp 8), type := 3, pos := "law.go:106", after := #[{ on := 5, ground := Ground.guard }], guard := some (5, true) }) (v := undef) rfl (by kernel_rfl) (by kernel_rfl) (by kernel_rfl) (fun _ _ _ h => h) (Or.inr ⟨by rfl, rfl⟩) (by assumption) ?_
              try simp only [Act.put, List.setIfInBounds_toArray, List.set_cons_zero, List.set_cons_succ]
              refine wpAnyH_take (i := 8) (oi := { dst := some 62, op := Op.binOp BinOp.sub 3 (Operand.tmp 61) (Operand.const (Value.int IntKind.i64 1)) 3, type := 3, pos := "law.go:106", after := #[{ on := 7, ground := Ground.data }, { on := 5, ground := Ground.guard }], guard := some (5, true) }) (v := undef) rfl (by kernel_rfl) (by kernel_rfl) (by kernel_rfl) (fun _ _ _ h => h) (Or.inr ⟨by rfl, rfl⟩) (by assumption) ?_
              try simp only [Act.put, List.setIfInBounds_toArray, List.set_cons_zero, List.set_cons_succ]
              refine wpAnyH_take (i := 9) (oi := { dst := some 63, op := Op.indexAddr 27 (Operand.tmp 60) (Operand.tmp 62), type := 0, pos := "law.go:106", after := #[{ on := 6, ground := Ground.data }, { on := 8, ground := Ground.data }, { on := 5, ground := Ground.guard }], guard := some (5, true) }) (v := undef) rfl (by kernel_rfl) (by kernel_rfl) (by kernel_rfl) (fun _ _ _ h => h) (Or.inr ⟨by rfl, rfl⟩) (by assumption) ?_
              try simp only [Act.put, List.setIfInBounds_toArray, List.set_cons_zero, List.set_cons_succ]
              refine wpAnyH_take (i := 10) (oi := { dst := some 64, op := Op.load 23 (Operand.tmp 63), type := 23, pos := "law.go:106", after := #[{ on := 9, ground := Ground.data }, { on := 5, ground := Ground.guard }], guard := some (5, true) }) (v := undef) rfl (by kernel_rfl) (by kernel_rfl) (by kernel_rfl) (fun _ _ _ h => h) (Or.inr ⟨by rfl, rfl⟩) (by assumption) ?_
              try simp only [Act.put, List.setIfInBounds_toArray, List.set_cons_zero, List.set_cons_succ]
              refine wpAnyH_take (i := 11) (oi := { dst := some 65, op := Op.load 23 (Operand.tmp 9), type := 23, pos := "law.go:106", after := #[{ on := 5, ground := Ground.guard }], guard := some (5, true) }) (v := undef) rfl (by kernel_rfl) (by kernel_rfl) (by kernel_rfl) (fun _ _ _ h => h) (Or.inr ⟨by rfl, rfl⟩) (by assumption) ?_
              try simp only [Act.put, List.setIfInBounds_toArray, List.set_cons_zero, List.set_cons_succ]
              refine wpAnyH_take (i := 12) (oi := { dst := some 66, op := Op.call { callee := Callee.value (Operand.func 15), args := #[Operand.tmp 64, Operand.tmp 65], argTypes := #[23, 23] }, type := 3, pos := "law.go:106", after := #[{ on := 10, ground := Ground.data }, { on := 11, ground := Ground.data }, { on := 5, ground := Ground.chain }, { on := 5, ground := Ground.guard }], guard := some (5, true) }) (v := undef) rfl (by kernel_rfl) (by kernel_rfl) (by kernel_rfl) (fun _ _ _ h => h) (Or.inr ⟨by rfl, rfl⟩) (by assumption) ?_
              try simp only [Act.put, List.setIfInBounds_toArray, List.set_cons_zero, List.set_cons_succ]
              refine wpAnyH_take (i := 13) (oi := { dst := some 67, op := Op.binOp BinOp.geq 3 (Operand.tmp 66) (Operand.const (Value.int IntKind.i64 0)) 3, type := 4, pos := "law.go:106", after := #[{ on := 12, ground := Ground.data }, { on := 5, ground := Ground.guard }], guard := some (5, true) }) (v := undef) rfl (by kernel_rfl) (by kernel_rfl) (by kernel_rfl) (fun _ _ _ h => h) (Or.inr ⟨by rfl, rfl⟩) (by assumption) ?_
              try simp only [Act.put, List.setIfInBounds_toArray, List.set_cons_zero, List.set_cons_succ]
              refine wpAnyH_take (i := 14) (oi := { dst := some 68, op := Op.pick (Operand.tmp 59) (Operand.tmp 67) (Operand.const (Value.bool false)), type := 4, pos := "law.go:106", after := #[{ on := 5, ground := Ground.data }, { on := 13, ground := Ground.data }, { on := 2, ground := Ground.guard }], guard := some (2, false) }) (v := ?vv8) rfl (by kernel_rfl) (by kernel_rfl) (by kernel_rfl) (fun _ _ _ h => h) (Or.inl ⟨by rfl, ?hy8⟩) (by assumption) ?hr8
              case hy8 => (intro wS hSw; (try dsimp only at hSw); go_simp; try with_reducible rfl)
              try simp only [Act.put, List.setIfInBounds_toArray, List.set_cons_zero, List.set_cons_succ]
              refine wpAnyH_take (i := 15) (oi := { dst := some 69, op := Op.pick (Operand.tmp 56) (Operand.const (Value.bool true)) (Operand.tmp 68), type := 4, pos := "law.go:106", after := #[{ on := 2, ground := Ground.data }, { on := 14, ground := Ground.data }], guard := none }) (v := ?vv9) rfl (by kernel_rfl) (by kernel_rfl) (by kernel_rfl) (fun _ _ _ h => h) (Or.inl ⟨by rfl, ?hy9⟩) (by assumption) ?hr9
              case hy9 => (intro wS hSw; (try dsimp only at hSw); go_simp; try with_reducible rfl)
              try simp only [Act.put, List.setIfInBounds_toArray, List.set_cons_zero, List.set_cons_succ]
              refine wpAnyH_take (i := 16) (oi := { dst := some 70, op := Op.move (Operand.tmp 69), type := 4, pos := "law.go:106", after := #[{ on := 15, ground := Ground.data }, { on := 12, ground := Ground.chain }], guard := none }) (v := ?vv10) rfl (by kernel_rfl) (by kernel_rfl) (by kernel_rfl) (fun _ _ _ h => h) (Or.inl ⟨by rfl, ?hy10⟩) (by assumption) ?hr10
              case hy10 => (intro wS hSw; (try dsimp only at hSw); go_simp; try with_reducible rfl)
              try simp only [Act.put, List.setIfInBounds_toArray, List.set_cons_zero, List.set_cons_succ]
              refine wpAnyH_take (i := 17) (oi := { dst := some 71, op := Op.move (Operand.tmp 0), type := 27, pos := "law.go:106", after := #[{ on := 16, ground := Ground.guard }], guard := some (16, false) }) (v := ?vv11) rfl (by kernel_rfl) (by kernel_rfl) (by kernel_rfl) (fun _ _ _ h => h) (Or.inl ⟨by rfl, ?hy11⟩) (by assumption) ?hr11
              case hy11 => (intro wS hSw; (try dsimp only at hSw); go_simp; try with_reducible rfl)
              try simp only [Act.put, List.setIfInBounds_toArray, List.set_cons_zero, List.set_cons_succ]
              refine wpAnyH_take (i := 18) (oi := { dst := some 72, op := Op.fieldAddr 23 (Operand.tmp 9) 3, type := 0, pos := "law.go:106", after := #[{ on := 16, ground := Ground.guard }], guard := some (16, false) }) (v := ?vv12) rfl (by kernel_rfl) (by kernel_rfl) (by kernel_rfl) (fun _ _ _ h => h) (Or.inl ⟨by rfl, ?hy12⟩) (by assumption) ?hr12
              case hy12 => (intro wS hSw; (try dsimp only at hSw); go_simp; try with_reducible rfl)
              try simp only [Act.put, List.setIfInBounds_toArray, List.set_cons_zero, List.set_cons_succ]
              refine wpAnyH_take (i := 19) (oi := { dst := some 73, op := Op.load 3 (Operand.tmp 72), type := 3, pos := "law.go:106", after := #[{ on := 18, ground := Ground.data }, { on := 16, ground := Ground.guard }], guard := some (16, false) }) (v := ?vv13) rfl (by kernel_rfl) (by kernel_rfl) (by kernel_rfl) (fun _ _ _ h => h) (Or.inl ⟨by rfl, ?hy13⟩) (by assumption) ?hr13
              case hy13 => (intro wS hSw; (try dsimp only at hSw); go_simp; try with_reducible rfl)
              try simp only [Act.put, List.setIfInBounds_toArray, List.set_cons_zero, List.set_cons_succ]
              refine wpAnyH_ready (rs := [20]) (by kernel_rfl) (by simp) ?_
              refine AllReadyH.cons (o := { dst := some 74, op := Op.call { callee := Callee.value (Operand.func 24), args := #[Operand.tmp 71, Operand.tmp 73], argTypes := #[27, 3] }, type := 3, pos := "law.go:106", after := #[{ on := 17, ground := Ground.data }, { on := 19, ground := Ground.data }, { on := 16, ground := Ground.chain }, { on := 16, ground := Ground.guard }], guard := some (16, false) }) rfl (fun K hK => ?_) AllReadyH.nil
              go_simp
              (go_at_call 24; refine Calls.mono (HFl.out _ ?_) ?_; (first | assumption | exact bel_drew hbr); rintro e w2 ⟨r, rfl, hr, hP2⟩)
              try go_wp2_with fail
              refine hK.out _ _ ?hS14 (fun hHeld => ?hr14)
              case hS14 => (try dsimp only); (first | (obtain ⟨⟨z0, z1, z2, z3⟩, z4, z5, z6, z7, z9⟩ := HK.out _ (bel_drew hbr); exact ⟨⟨z0, z1, z2, z3⟩, z9⟩) | (obtain ⟨⟨z0, z1, z2, z3⟩, z4, z5, z6, z7, z9⟩ := HK.out _ (by assumption); exact ⟨⟨z0, z1, z2, z3⟩, z9⟩))
              clear hK K
              try simp only [Act.put, List.setIfInBounds_toArray, List.set_cons_zero, List.set_cons_succ]
              refine wpAnyH_take (i := 21) (oi := { dst := some 75, op := Op.binOp BinOp.lss 3 (Operand.tmp 74) (Operand.const (Value.int IntKind.i64 0)) 3, type := 4, pos := "law.go:106", after := #[{ on := 20, ground := Ground.data }, { on := 16, ground := Ground.guard }], guard := some (16, false) }) (v := ?vv15) rfl (by kernel_rfl) (by kernel_rfl) (by kernel_rfl) (fun _ _ _ h => h) (Or.inl ⟨by rfl, ?hy15⟩) (by assumption) ?hr15
              case hy15 => (intro wS hSw; (try dsimp only at hSw); go_simp; try with_reducible rfl)
              try simp only [Act.put, List.setIfInBounds_toArray, List.set_cons_zero, List.set_cons_succ]
              refine wpAnyH_take (i := 22) (oi := { dst := some 76, op := Op.pick (Operand.tmp 70) (Operand.const (Value.bool true)) (Operand.tmp 75), type := 4, pos := "law.go:106", after := #[{ on := 16, ground := Ground.data }, { on := 21, ground := Ground.data }], guard := none }) (v := ?vv16) rfl (by kernel_rfl) (by kernel_rfl) (by kernel_rfl) (fun _ _ _ h => h) (Or.inl ⟨by rfl, ?hy16⟩) (by assumption) ?hr16
              case hy16 => (intro wS hSw; (try dsimp only at hSw); go_simp; try with_reducible rfl)
              try simp only [Act.put, List.setIfInBounds_toArray, List.set_cons_zero, List.set_cons_succ]
              refine wpAnyH_take (i := 23) (oi := { dst := some 77, op := Op.move (Operand.tmp 76), type := 4, pos := "law.go:106", after := #[{ on := 22, ground := Ground.data }, { on := 20, ground := Ground.chain }], guard := none }) (v := ?vv17) rfl (by kernel_rfl) (by kernel_rfl) (by kernel_rfl) (fun _ _ _ h => h) (Or.inl ⟨by rfl, ?hy17⟩) (by assumption) ?hr17
              case hy17 => (intro wS hSw; (try dsimp only at hSw); go_simp; try with_reducible rfl)
              try simp only [Act.put, List.setIfInBounds_toArray, List.set_cons_zero, List.set_cons_succ]
              refine wpAnyH_take (i := 24) (oi := { dst := some 78, op := Op.move (Operand.tmp 7), type := 27, pos := "law.go:106", after := #[{ on := 23, ground := Ground.guard }], guard := some (23, false) }) (v := ?vv18) rfl (by kernel_rfl) (by kernel_rfl) (by kernel_rfl) (fun _ _ _ h => h) (Or.inl ⟨by rfl, ?hy18⟩) (by assumption) ?hr18
              case hy18 => (intro wS hSw; (try dsimp only at hSw); go_simp; try with_reducible rfl)
              try simp only [Act.put, List.setIfInBounds_toArray, List.set_cons_zero, List.set_cons_succ]
              refine wpAnyH_take (i := 25) (oi := { dst := some 79, op := Op.fieldAddr 23 (Operand.tmp 9) 3, type := 0, pos := "law.go:106", after := #[{ on := 23, ground := Ground.guard }], guard := some (23, false) }) (v := ?vv19) rfl (by kernel_rfl) (by kernel_rfl) (by kernel_rfl) (fun _ _ _ h => h) (Or.inl ⟨by rfl, ?hy19⟩) (by assumption) ?hr19
              case hy19 => (intro wS hSw; (try dsimp only at hSw); go_simp; try with_reducible rfl)
              try simp only [Act.put, List.setIfInBounds_toArray, List.set_cons_zero, List.set_cons_succ]
              refine wpAnyH_take (i := 26) (oi := { dst := some 80, op := Op.load 3 (Operand.tmp 79), type := 3, pos := "law.go:106", after := #[{ on := 25, ground := Ground.data }, { on := 23, ground := Ground.guard }], guard := some (23, false) }) (v := ?vv20) rfl (by kernel_rfl) (by kernel_rfl) (by kernel_rfl) (fun _ _ _ h => h) (Or.inl ⟨by rfl, ?hy20⟩) (by assumption) ?hr20
              case hy20 => (intro wS hSw; (try dsimp only at hSw); go_simp; try with_reducible rfl)
              try simp only [Act.put, List.setIfInBounds_toArray, List.set_cons_zero, List.set_cons_succ]
              refine wpAnyH_ready (rs := [27]) (by kernel_rfl) (by simp) ?_
              refine AllReadyH.cons (o := { dst := some 81, op := Op.call { callee := Callee.value (Operand.func 24), args := #[Operand.tmp 78, Operand.tmp 80], argTypes := #[27, 3] }, type := 3, pos := "law.go:106", after := #[{ on := 24, ground := Ground.data }, { on := 26, ground := Ground.data }, { on := 23, ground := Ground.chain }, { on := 23, ground := Ground.guard }], guard := some (23, false) }) rfl (fun K hK => ?_) AllReadyH.nil
              go_simp
              (go_at_call 24; refine Calls.mono (HFo.out _ ?_) ?_; (first | assumption | exact bel_drew hbr); rintro e w2 ⟨rfl, hP2⟩)
              try go_wp2_with fail
              refine hK.out _ _ ?hS21 (fun hHeld => ?hr21)
              case hS21 => (try dsimp only); (first | (obtain ⟨⟨z0, z1, z2, z3⟩, z4, z5, z6, z7, z9⟩ := HK.out _ (bel_drew hbr); exact ⟨⟨z0, z1, z2, z3⟩, z9⟩) | (obtain ⟨⟨z0, z1, z2, z3⟩, z4, z5, z6, z7, z9⟩ := HK.out _ (by assumption); exact ⟨⟨z0, z1, z2, z3⟩, z9⟩))
              clear hK K
              try simp only [Act.put, List.setIfInBounds_toArray, List.set_cons_zero, List.set_cons_succ]
              refine wpAnyH_take (i := 28) (oi := { dst := some 82, op := Op.binOp BinOp.geq 3 (Operand.tmp 81) (Operand.const (Value.int IntKind.i64 0)) 3, type := 4, pos := "law.go:106", after := #[{ on := 27, ground := Ground.data }, { on := 23, ground := Ground.guard }], guard := some (23, false) }) (v := ?vv22) rfl (by kernel_rfl) (by kernel_rfl) (by kernel_rfl) (fun _ _ _ h => h) (Or.inl ⟨by rfl, ?hy22⟩) (by assumption) ?hr22
              case hy22 => (intro wS hSw; (try dsimp only at hSw); go_simp; try with_reducible rfl)
              try simp only [Act.put, List.setIfInBounds_toArray, List.set_cons_zero, List.set_cons_succ]
              refine wpAnyH_take (i := 29) (oi := { dst := some 83, op := Op.pick (Operand.tmp 77) (Operand.const (Value.bool true)) (Operand.tmp 82), type := 4, pos := "law.go:106", after := #[{ on := 23, ground := Ground.data }, { on := 28, ground := Ground.data }], guard := none }) (v := ?vv23) rfl (by kernel_rfl) (by kernel_rfl) (by kernel_rfl) (fun _ _ _ h => h) (Or.inl ⟨by rfl, ?hy23⟩) (by assumption) ?hr23
              case hy23 => (intro wS hSw; (try dsimp only at hSw); go_simp; try with_reducible rfl)
              try simp only [Act.put, List.setIfInBounds_toArray, List.set_cons_zero, List.set_cons_succ]
              refine wpAnyH_done (by kernel_rfl) ?_ _
              obtain ⟨u0, u1, u2, u3⟩ := (HK.out _ hP2).k
              have h5 := Lib.hid (H4.out.below (bel_alloc hP2 (.cells #[.int .i64 k0, .int .i64 k1, .int .i64 k2, .int .i64 k3] 23)))
              have ho5 := Lib.hid (ownsRow_keep (w' := w2.alloc (.cells #[.int .i64 k0, .int .i64 k1, .int .i64 k2, .int .i64 k3] 23)) HO4.out fun k hk => (bel_alloc hP2 _).block k (ownsRow_lt HO4.out k hk))
              obtain ⟨i0, ki, kz0, kz1, kz2⟩ := info_parts Try.info23
              go_wp2_with (at_builtin; refine wpList_append_lies _ rfl _ _ 27 rfl w.heap.size 23 i0 _ 4 32 Try.underlying27 ki kz0 kz1 kz2 rfl (by decide) _ _ _ rfl ho5.out ⟨w2.heap.size, 0, none⟩ 1 1 (qc (k0, k1, k2, k3)) rfl rfl (fun j u hu => cell_new _ _ _ j u hu) (by simp [qc, Value.oneCell']) (by omega) (by unfold maxLen; omega) (by omega) h5.out.bel.size _ rfl ?_)
              intro gg cap6 w6 hown6 hgrow6 hat6 hlt6
              have HN := after6 (HL := HL.out) h5.out ho5.out HFv.out hown6 hgrow6 hat6 (by simp)
              clear hown6 hgrow6 hat6
              go_wp2_with fail
              go_roundw
              case rel => exact ⟨1, _, pre ++ [(k0, k1, k2, k3)], rest, rfl, by omega, rfl, HN.1, by (show _ = _); rw [List.length_append, HL.out]; rfl, by rw [← HPR.out]; show _ = _; simp, HN.2.1, HN.2.2⟩
              case measure => simp [intOf]; omega
            · obtain rfl : ii = (pp : Int) + 1 := by omega
              clear hii
              obtain ⟨g, cap', hv, hg0, hgl, _, hcell, _⟩ := ownsRow_cells HO4.out (by omega)
              simp only [Value.slice.injEq] at hv
              obtain ⟨rfl, _, rfl⟩ := hv
              have hQ : Hid (Q4 w4 g (pp * 4) (pre[pp]'(by have := HL.out; omega))) := by
                obtain ⟨g', off', e, _, hc⟩ := (qs_of_own HO4'.out HL.out.symm).2 (by omega)
                simp only [Option.some.injEq, Addr.mk.injEq] at e
                obtain ⟨rfl, rfl, _⟩ := e
                have := hc pp (by have := HL.out; omega)
                rw [Nat.zero_add] at this
                exact this
              have ht := Hlast.out pp (by have := HL.out; omega)
              have HC := Lib.hid (fun W (hb : Below w4.heap.size w4 W) => cmpK_from (w0 := w4) (pre[pp]'(by have := HL.out; omega)) (k0, k1, k2, k3) hb)
              have HK : Hid (∀ W, Below w4.heap.size w4 W → RdT w4 bx k0 k1 k2 k3 g (pp * 4) (pre[pp]'(by have := HL.out; omega)).1 (pre[pp]'(by have := HL.out; omega)).2.1 (pre[pp]'(by have := HL.out; omega)).2.2.1 (pre[pp]'(by have := HL.out; omega)).2.2.2 W) := fun W hb => ⟨HK4.out.below hb, (hQ.out.below hb).c0, (hQ.out.below hb).c1, (hQ.out.below hb).c2, (hQ.out.below hb).c3, hb⟩
              clear hQ hcell
              generalize (pre[pp]'(by have := HL.out; omega)) = y at *
              obtain ⟨y0, y1, y2, y3⟩ := y
              unfold qv at HC
              simp only at HC HK
              generalize cmpK (y0, y1, y2, y3) (k0, k1, k2, k3) = t at *
              have ht0 : decide (0 ≤ t) = false := decide_eq_false (by omega)
              have hp1 : decide (0 < (pp : Int) + 1) = true := decide_eq_true (by omega)
              have hp2 : (0 : Int) < (pp : Int) + 1 := by omega
              have k3' : IntKind.i64.wrap (pp : Int) = (pp : Int) := IntWalk.i64_in _ (by omega)
              have hpp0 : (0 : Int) ≤ (pp : Int) := by omega
              have hpp1 : (pp : Int) < (pp : Int) + 1 := by omega
              refine wp_region_held_drew (S := fun w' => (w'.cell? ⟨bx, 0, none⟩ = some (.int .i64 k0) ∧ w'.cell? ⟨bx, 1, none⟩ = some (.int .i64 k1) ∧ w'.cell? ⟨bx, 2, none⟩ = some (.int .i64 k2) ∧ w'.cell? ⟨bx, 3, none⟩ = some (.int .i64 k3) ∧ w'.cell? ⟨g, pp * 4, none⟩ = some (.int .i64 y0) ∧ w'.cell? ⟨g, pp * 4 + 1, none⟩ = some (.int .i64 y1) ∧ w'.cell? ⟨g, pp * 4 + 2, none⟩ = some (.int .i64 y2) ∧ w'.cell? ⟨g, pp * 4 + 3, none⟩ = some (.int .i64 y3)) ∧ Below w4.heap.size w4 w') (by kernel_rfl) ?hS24 (fun hHeld => ?_)
              case hS24 => (try dsimp only); (first | (obtain ⟨⟨z0, z1, z2, z3⟩, z4, z5, z6, z7, z9⟩ := HK.out _ (bel_drew hbr); exact ⟨⟨z0, z1, z2, z3, z4, z5, z6, z7⟩, z9⟩) | (obtain ⟨⟨z0, z1, z2, z3⟩, z4, z5, z6, z7, z9⟩ := HK.out _ (by assumption); exact ⟨⟨z0, z1, z2, z3, z4, z5, z6, z7⟩, z9⟩))
              refine wpAnyH_take (i := 0) (oi := { dst := some 54, op := Op.move (Operand.tmp 10), type := 4, pos := "law.go:106", after := #[], guard := none }) (v := ?vv25) rfl (by kernel_rfl) (by kernel_rfl) (by kernel_rfl) (fun _ _ _ h => h) (Or.inl ⟨by rfl, ?hy25⟩) (by assumption) ?hr25
              case hy25 => (intro wS hSw; (try dsimp only at hSw); go_simp; try with_reducible rfl)
              try simp only [Act.put, List.setIfInBounds_toArray, List.set_cons_zero, List.set_cons_succ]
              refine wpAnyH_take (i := 1) (oi := { dst := some 55, op := Op.unOp UnOp.not 4 (Operand.tmp 54), type := 4, pos := "law.go:106", after := #[{ on := 0, ground := Ground.data }], guard := none }) (v := ?vv26) rfl (by kernel_rfl) (by kernel_rfl) (by kernel_rfl) (fun _ _ _ h => h) (Or.inl ⟨by rfl, ?hy26⟩) (by assumption) ?hr26
              case hy26 => (intro wS hSw; (try dsimp only at hSw); go_simp; try with_reducible rfl)
              try simp only [Act.put, List.setIfInBounds_toArray, List.set_cons_zero, List.set_cons_succ]
              refine wpAnyH_take (i := 2) (oi := { dst := some 56, op := Op.move (Operand.tmp 55), type := 4, pos := "law.go:106", after := #[{ on := 1, ground := Ground.data }], guard := none }) (v := ?vv27) rfl (by kernel_rfl) (by kernel_rfl) (by kernel_rfl) (fun _ _ _ h => h) (Or.inl ⟨by rfl, ?hy27⟩) (by assumption) ?hr27
              case hy27 => (intro wS hSw; (try dsimp only at hSw); go_simp; try with_reducible rfl)
              try simp only [Act.put, List.setIfInBounds_toArray, List.set_cons_zero, List.set_cons_succ]
              refine wpAnyH_take (i := 3) (oi := { dst := some 57, op := Op.move (Operand.tmp 8), type := 3, pos := "law.go:106", after := #[{ on := 2, ground := Ground.guard }], guard := some (2, false) }) (v := ?vv28) rfl (by kernel_rfl) (by kernel_rfl) (by kernel_rfl) (fun _ _ _ h => h) (Or.inl ⟨by rfl, ?hy28⟩) (by assumption) ?hr28
              case hy28 => (intro wS hSw; (try dsimp only at hSw); go_simp; try with_reducible rfl)
              try simp only [Act.put, List.setIfInBounds_toArray, List.set_cons_zero, List.set_cons_succ]
              refine wpAnyH_take (i := 4) (oi := { dst := some 58, op := Op.binOp BinOp.gtr 3 (Operand.tmp 57) (Operand.const (Value.int IntKind.i64 0)) 3, type := 4, pos := "law.go:106", after := #[{ on := 3, ground := Ground.data }, { on := 2, ground := Ground.guard }], guard := some (2, false) }) (v := ?vv29) rfl (by kernel_rfl) (by kernel_rfl) (by kernel_rfl) (fun _ _ _ h => h) (Or.inl ⟨by rfl, ?hy29⟩) (by assumption) ?hr29
              case hy29 => (intro wS hSw; (try dsimp only at hSw); go_simp; try with_reducible rfl)
              try simp only [Act.put, List.setIfInBounds_toArray, List.set_cons_zero, List.set_cons_succ]
              refine wpAnyH_take (i := 5) (oi := { dst := some 59, op := Op.move (Operand.tmp 58), type := 4, pos := "law.go:106", after := #[{ on := 4, ground := Ground.data }, { on := 2, ground := Ground.chain }, { on := 2, ground := Ground.guard }], guard := some (2, false) }) (v := ?vv30) rfl (by kernel_rfl) (by kernel_rfl) (by kernel_rfl) (fun _ _ _ h => h) (Or.inl ⟨by rfl, ?hy30⟩) (by assumption) ?hr30
              case hy30 => (intro wS hSw; (try dsimp only at hSw); go_simp; try with_reducible rfl)
              try simp only [Act.put, List.setIfInBounds_toArray, List.set_cons_zero, List.set_cons_succ]
              refine wpAnyH_take (i := 6) (oi := { dst := some 60, op := Op.move (Operand.tmp 7), type := 27, pos := "law.go:106", after := #[{ on := 5, ground := Ground.guard }], guard := some (5, true) }) (v := ?vv31) rfl (by kernel_rfl) (by kernel_rfl) (by kernel_rfl) (fun _ _ _ h => h) (Or.inl ⟨by rfl, ?hy31⟩) (by assumption) ?hr31
              case hy31 => (intro wS hSw; (try dsimp only at hSw); go_simp; try with_reducible rfl)
              try simp only [Act.put, List.setIfInBounds_toArray, List.set_cons_zero, List.set_cons_succ]
              refine wpAnyH_take (i := 7) (oi := { dst := some 61, op := Op.move (Operand.tmp 8), type := 3, pos := "law.go:106", after := #[{ on := 5, ground := Ground.guard }], guard := some (5, true) }) (v := ?vv32) rfl (by kernel_rfl) (by kernel_rfl) (by kernel_rfl) (fun _ _ _ h => h) (Or.inl ⟨by rfl, ?hy32⟩) (by assumption) ?hr32
              case hy32 => (intro wS hSw; (try dsimp only at hSw); go_simp; try with_reducible rfl)
              try simp only [Act.put, List.setIfInBounds_toArray, List.set_cons_zero, List.set_cons_succ]
              refine wpAnyH_take (i := 8) (oi := { dst := some 62, op := Op.binOp BinOp.sub 3 (Operand.tmp 61) (Operand.const (Value.int IntKind.i64 1)) 3, type := 3, pos := "law.go:106", after := #[{ on := 7, ground := Ground.data }, { on := 5, ground := Ground.guard }], guard := some (5, true) }) (v := ?vv33) rfl (by kernel_rfl) (by kernel_rfl) (by kernel_rfl) (fun _ _ _ h => h) (Or.inl ⟨by rfl, ?hy33⟩) (by assumption) ?hr33
              case hy33 => (intro wS hSw; (try dsimp only at hSw); go_simp; try with_reducible rfl)
              try simp only [Act.put, List.setIfInBounds_toArray, List.set_cons_zero, List.set_cons_succ]
              refine wpAnyH_take (i := 9) (oi := { dst := some 63, op := Op.indexAddr 27 (Operand.tmp 60) (Operand.tmp 62), type := 0, pos := "law.go:106", after := #[{ on := 6, ground := Ground.data }, { on := 8, ground := Ground.data }, { on := 5, ground := Ground.guard }], guard := some (5, true) }) (v := ?vv34) rfl (by kernel_rfl) (by kernel_rfl) (by kernel_rfl) (fun _ _ _ h => h) (Or.inl ⟨by rfl, ?hy34⟩) (by assumption) ?hr34
              case hy34 => (intro wS hSw; (try dsimp only at hSw); go_simp; try with_reducible rfl)
              try simp only [Act.put, List.setIfInBounds_toArray, List.set_cons_zero, List.set_cons_succ]
              refine wpAnyH_take (i := 10) (oi := { dst := some 64, op := Op.load 23 (Operand.tmp 63), type := 23, pos := "law.go:106", after := #[{ on := 9, ground := Ground.data }, { on := 5, ground := Ground.guard }], guard := some (5, true) }) (v := ?vv35) rfl (by kernel_rfl) (by kernel_rfl) (by kernel_rfl) (fun _ _ _ h => h) (Or.inl ⟨by rfl, ?hy35⟩) (by assumption) ?hr35
              case hy35 => (intro wS hSw; (try dsimp only at hSw); go_simp; try with_reducible rfl)
              try simp only [Act.put, List.setIfInBounds_toArray, List.set_cons_zero, List.set_cons_succ]
              refine wpAnyH_take (i := 11) (oi := { dst := some 65, op := Op.load 23 (Operand.tmp 9), type := 23, pos := "law.go:106", after := #[{ on := 5, ground := Ground.guard }], guard := some (5, true) }) (v := ?vv36) rfl (by kernel_rfl) (by kernel_rfl) (by kernel_rfl) (fun _ _ _ h => h) (Or.inl ⟨by rfl, ?hy36⟩) (by assumption) ?hr36
              case hy36 => (intro wS hSw; (try dsimp only at hSw); go_simp; try with_reducible rfl)
              try simp only [Act.put, List.setIfInBounds_toArray, List.set_cons_zero, List.set_cons_succ]
              refine wpAnyH_ready (rs := [12]) (by kernel_rfl) (by simp) ?_
              refine AllReadyH.cons (o := { dst := some 66, op := Op.call { callee := Callee.value (Operand.func 15), args := #[Operand.tmp 64, Operand.tmp 65], argTypes := #[23, 23] }, type := 3, pos := "law.go:106", after := #[{ on := 10, ground := Ground.data }, { on := 11, ground := Ground.data }, { on := 5, ground := Ground.chain }, { on := 5, ground := Ground.guard }], guard := some (5, true) }) rfl (fun K hK => ?_) AllReadyH.nil
              go_simp
              (go_at_call 15; refine Calls.mono (HC.out _ ?_) ?_; (first | assumption | exact bel_drew hbr); rintro e w2 ⟨rfl, hP2⟩)
              try go_wp2_with fail
              refine hK.out _ _ ?hS37 (fun hHeld => ?hr37)
              case hS37 => (try dsimp only); (first | (obtain ⟨⟨z0, z1, z2, z3⟩, z4, z5, z6, z7, z9⟩ := HK.out _ (bel_drew hbr); exact ⟨⟨z0, z1, z2, z3, z4, z5, z6, z7⟩, z9⟩) | (obtain ⟨⟨z0, z1, z2, z3⟩, z4, z5, z6, z7, z9⟩ := HK.out _ (by assumption); exact ⟨⟨z0, z1, z2, z3, z4, z5, z6, z7⟩, z9⟩))
              clear hK K
              try simp only [Act.put, List.setIfInBounds_toArray, List.set_cons_zero, List.set_cons_succ]
              refine wpAnyH_take (i := 13) (oi := { dst := some 67, op := Op.binOp BinOp.geq 3 (Operand.tmp 66) (Operand.const (Value.int IntKind.i64 0)) 3, type := 4, pos := "law.go:106", after := #[{ on := 12, ground := Ground.data }, { on := 5, ground := Ground.guard }], guard := some (5, true) }) (v := ?vv38) rfl (by kernel_rfl) (by kernel_rfl) (by kernel_rfl) (fun _ _ _ h => h) (Or.inl ⟨by rfl, ?hy38⟩) (by assumption) ?hr38
              case hy38 => (intro wS hSw; (try dsimp only at hSw); go_simp; try with_reducible rfl)
              try simp only [Act.put, List.setIfInBounds_toArray, List.set_cons_zero, List.set_cons_succ]
              refine wpAnyH_take (i := 14) (oi := { dst := some 68, op := Op.pick (Operand.tmp 59) (Operand.tmp 67) (Operand.const (Value.bool false)), type := 4, pos := "law.go:106", after := #[{ on := 5, ground := Ground.data }, { on := 13, ground := Ground.data }, { on := 2, ground := Ground.guard }], guard := some (2, false) }) (v := ?vv39) rfl (by kernel_rfl) (by kernel_rfl) (by kernel_rfl) (fun _ _ _ h => h) (Or.inl ⟨by rfl, ?hy39⟩) (by assumption) ?hr39
              case hy39 => (intro wS hSw; (try dsimp only at hSw); go_simp; try with_reducible rfl)
              try simp only [Act.put, List.setIfInBounds_toArray, List.set_cons_zero, List.set_cons_succ]
              refine wpAnyH_take (i := 15) (oi := { dst := some 69, op := Op.pick (Operand.tmp 56) (Operand.const (Value.bool true)) (Operand.tmp 68), type := 4, pos := "law.go:106", after := #[{ on := 2, ground := Ground.data }, { on := 14, ground := Ground.data }], guard := none }) (v := ?vv40) rfl (by kernel_rfl) (by kernel_rfl) (by kernel_rfl) (fun _ _ _ h => h) (Or.inl ⟨by rfl, ?hy40⟩) (by assumption) ?hr40
              case hy40 => (intro wS hSw; (try dsimp only at hSw); go_simp; try with_reducible rfl)
              try simp only [Act.put, List.setIfInBounds_toArray, List.set_cons_zero, List.set_cons_succ]
              refine wpAnyH_take (i := 16) (oi := { dst := some 70, op := Op.move (Operand.tmp 69), type := 4, pos := "law.go:106", after := #[{ on := 15, ground := Ground.data }, { on := 12, ground := Ground.chain }], guard := none }) (v := ?vv41) rfl (by kernel_rfl) (by kernel_rfl) (by kernel_rfl) (fun _ _ _ h => h) (Or.inl ⟨by rfl, ?hy41⟩) (by assumption) ?hr41
              case hy41 => (intro wS hSw; (try dsimp only at hSw); go_simp; try with_reducible rfl)
              try simp only [Act.put, List.setIfInBounds_toArray, List.set_cons_zero, List.set_cons_succ]
              refine wpAnyH_take (i := 17) (oi := { dst := some 71, op := Op.move (Operand.tmp 0), type := 27, pos := "law.go:106", after := #[{ on := 16, ground := Ground.guard }], guard := some (16, false) }) (v := ?vv42) rfl (by kernel_rfl) (by kernel_rfl) (by kernel_rfl) (fun _ _ _ h => h) (Or.inl ⟨by rfl, ?hy42⟩) (by assumption) ?hr42
              case hy42 => (intro wS hSw; (try dsimp only at hSw); go_simp; try with_reducible rfl)
              try simp only [Act.put, List.setIfInBounds_toArray, List.set_cons_zero, List.set_cons_succ]
              refine wpAnyH_take (i := 18) (oi := { dst := some 72, op := Op.fieldAddr 23 (Operand.tmp 9) 3, type := 0, pos := "law.go:106", after := #[{ on := 16, ground := Ground.guard }], guard := some (16, false) }) (v := ?vv43) rfl (by kernel_rfl) (by kernel_rfl) (by kernel_rfl) (fun _ _ _ h => h) (Or.inl ⟨by rfl, ?hy43⟩) (by assumption) ?hr43
              case hy43 => (intro wS hSw; (try dsimp only at hSw); go_simp; try with_reducible rfl)
              try simp only [Act.put, List.setIfInBounds_toArray, List.set_cons_zero, List.set_cons_succ]
              refine wpAnyH_take (i := 19) (oi := { dst := some 73, op := Op.load 3 (Operand.tmp 72), type := 3, pos := "law.go:106", after := #[{ on := 18, ground := Ground.data }, { on := 16, ground := Ground.guard }], guard := some (16, false) }) (v := ?vv44) rfl (by kernel_rfl) (by kernel_rfl) (by kernel_rfl) (fun _ _ _ h => h) (Or.inl ⟨by rfl, ?hy44⟩) (by assumption) ?hr44
              case hy44 => (intro wS hSw; (try dsimp only at hSw); go_simp; try with_reducible rfl)
              try simp only [Act.put, List.setIfInBounds_toArray, List.set_cons_zero, List.set_cons_succ]
              refine wpAnyH_ready (rs := [20]) (by kernel_rfl) (by simp) ?_
              refine AllReadyH.cons (o := { dst := some 74, op := Op.call { callee := Callee.value (Operand.func 24), args := #[Operand.tmp 71, Operand.tmp 73], argTypes := #[27, 3] }, type := 3, pos := "law.go:106", after := #[{ on := 17, ground := Ground.data }, { on := 19, ground := Ground.data }, { on := 16, ground := Ground.chain }, { on := 16, ground := Ground.guard }], guard := some (16, false) }) rfl (fun K hK => ?_) AllReadyH.nil
              go_simp
              (go_at_call 24; refine Calls.mono (HFl.out _ ?_) ?_; (first | assumption | exact bel_drew hbr); rintro e w2 ⟨r, rfl, hr, hP2⟩)
              try go_wp2_with fail
              refine hK.out _ _ ?hS45 (fun hHeld => ?hr45)
              case hS45 => (try dsimp only); (first | (obtain ⟨⟨z0, z1, z2, z3⟩, z4, z5, z6, z7, z9⟩ := HK.out _ (bel_drew hbr); exact ⟨⟨z0, z1, z2, z3, z4, z5, z6, z7⟩, z9⟩) | (obtain ⟨⟨z0, z1, z2, z3⟩, z4, z5, z6, z7, z9⟩ := HK.out _ (by assumption); exact ⟨⟨z0, z1, z2, z3, z4, z5, z6, z7⟩, z9⟩))
              clear hK K
              try simp only [Act.put, List.setIfInBounds_toArray, List.set_cons_zero, List.set_cons_succ]
              refine wpAnyH_take (i := 21) (oi := { dst := some 75, op := Op.binOp BinOp.lss 3 (Operand.tmp 74) (Operand.const (Value.int IntKind.i64 0)) 3, type := 4, pos := "law.go:106", after := #[{ on := 20, ground := Ground.data }, { on := 16, ground := Ground.guard }], guard := some (16, false) }) (v := ?vv46) rfl (by kernel_rfl) (by kernel_rfl) (by kernel_rfl) (fun _ _ _ h => h) (Or.inl ⟨by rfl, ?hy46⟩) (by assumption) ?hr46
              case hy46 => (intro wS hSw; (try dsimp only at hSw); go_simp; try with_reducible rfl)
              try simp only [Act.put, List.setIfInBounds_toArray, List.set_cons_zero, List.set_cons_succ]
              refine wpAnyH_take (i := 22) (oi := { dst := some 76, op := Op.pick (Operand.tmp 70) (Operand.const (Value.bool true)) (Operand.tmp 75), type := 4, pos := "law.go:106", after := #[{ on := 16, ground := Ground.data }, { on := 21, ground := Ground.data }], guard := none }) (v := ?vv47) rfl (by kernel_rfl) (by kernel_rfl) (by kernel_rfl) (fun _ _ _ h => h) (Or.inl ⟨by rfl, ?hy47⟩) (by assumption) ?hr47
              case hy47 => (intro wS hSw; (try dsimp only at hSw); go_simp; try with_reducible rfl)
              try simp only [Act.put, List.setIfInBounds_toArray, List.set_cons_zero, List.set_cons_succ]
              refine wpAnyH_take (i := 23) (oi := { dst := some 77, op := Op.move (Operand.tmp 76), type := 4, pos := "law.go:106", after := #[{ on := 22, ground := Ground.data }, { on := 20, ground := Ground.chain }], guard := none }) (v := ?vv48) rfl (by kernel_rfl) (by kernel_rfl) (by kernel_rfl) (fun _ _ _ h => h) (Or.inl ⟨by rfl, ?hy48⟩) (by assumption) ?hr48
              case hy48 => (intro wS hSw; (try dsimp only at hSw); go_simp; try with_reducible rfl)
              try simp only [Act.put, List.setIfInBounds_toArray, List.set_cons_zero, List.set_cons_succ]
              refine wpAnyH_take (i := 24) (oi := { dst := some 78, op := Op.move (Operand.tmp 7), type := 27, pos := "law.go:106", after := #[{ on := 23, ground := Ground.guard }], guard := some (23, false) }) (v := ?vv49) rfl (by kernel_rfl) (by kernel_rfl) (by kernel_rfl) (fun _ _ _ h => h) (Or.inl ⟨by rfl, ?hy49⟩) (by assumption) ?hr49
              case hy49 => (intro wS hSw; (try dsimp only at hSw); go_simp; try with_reducible rfl)
              try simp only [Act.put, List.setIfInBounds_toArray, List.set_cons_zero, List.set_cons_succ]
              refine wpAnyH_take (i := 25) (oi := { dst := some 79, op := Op.fieldAddr 23 (Operand.tmp 9) 3, type := 0, pos := "law.go:106", after := #[{ on := 23, ground := Ground.guard }], guard := some (23, false) }) (v := ?vv50) rfl (by kernel_rfl) (by kernel_rfl) (by kernel_rfl) (fun _ _ _ h => h) (Or.inl ⟨by rfl, ?hy50⟩) (by assumption) ?hr50
              case hy50 => (intro wS hSw; (try dsimp only at hSw); go_simp; try with_reducible rfl)
              try simp only [Act.put, List.setIfInBounds_toArray, List.set_cons_zero, List.set_cons_succ]
              refine wpAnyH_take (i := 26) (oi := { dst := some 80, op := Op.load 3 (Operand.tmp 79), type := 3, pos := "law.go:106", after := #[{ on := 25, ground := Ground.data }, { on := 23, ground := Ground.guard }], guard := some (23, false) }) (v := ?vv51) rfl (by kernel_rfl) (by kernel_rfl) (by kernel_rfl) (fun _ _ _ h => h) (Or.inl ⟨by rfl, ?hy51⟩) (by assumption) ?hr51
              case hy51 => (intro wS hSw; (try dsimp only at hSw); go_simp; try with_reducible rfl)
              try simp only [Act.put, List.setIfInBounds_toArray, List.set_cons_zero, List.set_cons_succ]
              refine wpAnyH_ready (rs := [27]) (by kernel_rfl) (by simp) ?_
              refine AllReadyH.cons (o := { dst := some 81, op := Op.call { callee := Callee.value (Operand.func 24), args := #[Operand.tmp 78, Operand.tmp 80], argTypes := #[27, 3] }, type := 3, pos := "law.go:106", after := #[{ on := 24, ground := Ground.data }, { on := 26, ground := Ground.data }, { on := 23, ground := Ground.chain }, { on := 23, ground := Ground.guard }], guard := some (23, false) }) rfl (fun K hK => ?_) AllReadyH.nil
              go_simp
              (go_at_call 24; refine Calls.mono (HFo.out _ ?_) ?_; (first | assumption | exact bel_drew hbr); rintro e w2 ⟨rfl, hP2⟩)
              try go_wp2_with fail
              refine hK.out _ _ ?hS52 (fun hHeld => ?hr52)
              case hS52 => (try dsimp only); (first | (obtain ⟨⟨z0, z1, z2, z3⟩, z4, z5, z6, z7, z9⟩ := HK.out _ (bel_drew hbr); exact ⟨⟨z0, z1, z2, z3, z4, z5, z6, z7⟩, z9⟩) | (obtain ⟨⟨z0, z1, z2, z3⟩, z4, z5, z6, z7, z9⟩ := HK.out _ (by assumption); exact ⟨⟨z0, z1, z2, z3, z4, z5, z6, z7⟩, z9⟩))
              clear hK K
              try simp only [Act.put, List.setIfInBounds_toArray, List.set_cons_zero, List.set_cons_succ]
              refine wpAnyH_take (i := 28) (oi := { dst := some 82, op := Op.binOp BinOp.geq 3 (Operand.tmp 81) (Operand.const (Value.int IntKind.i64 0)) 3, type := 4, pos := "law.go:106", after := #[{ on := 27, ground := Ground.data }, { on := 23, ground := Ground.guard }], guard := some (23, false) }) (v := ?vv53) rfl (by kernel_rfl) (by kernel_rfl) (by kernel_rfl) (fun _ _ _ h => h) (Or.inl ⟨by rfl, ?hy53⟩) (by assumption) ?hr53
              case hy53 => (intro wS hSw; (try dsimp only at hSw); go_simp; try with_reducible rfl)
              try simp only [Act.put, List.setIfInBounds_toArray, List.set_cons_zero, List.set_cons_succ]
              refine wpAnyH_take (i := 29) (oi := { dst := some 83, op := Op.pick (Operand.tmp 77) (Operand.const (Value.bool true)) (Operand.tmp 82), type := 4, pos := "law.go:106", after := #[{ on := 23, ground := Ground.data }, { on := 28, ground := Ground.data }], guard := none }) (v := ?vv54) rfl (by kernel_rfl) (by kernel_rfl) (by kernel_rfl) (fun _ _ _ h => h) (Or.inl ⟨by rfl, ?hy54⟩) (by assumption) ?hr54
              case hy54 => (intro wS hSw; (try dsimp only at hSw); go_simp; try with_reducible rfl)
              try simp only [Act.put, List.setIfInBounds_toArray, List.set_cons_zero, List.set_cons_succ]
              refine wpAnyH_done (by kernel_rfl) ?_ _
              obtain ⟨u0, u1, u2, u3⟩ := (HK.out _ hP2).k
              have h5 := Lib.hid (H4.out.below (bel_alloc hP2 (.cells #[.int .i64 k0, .int .i64 k1, .int .i64 k2, .int .i64 k3] 23)))
              have ho5 := Lib.hid (ownsRow_keep (w' := w2.alloc (.cells #[.int .i64 k0, .int .i64 k1, .int .i64 k2, .int .i64 k3] 23)) HO4.out fun k hk => (bel_alloc hP2 _).block k (ownsRow_lt HO4.out k hk))
              obtain ⟨i0, ki, kz0, kz1, kz2⟩ := info_parts Try.info23
              go_wp2_with (at_builtin; refine wpList_append_lies _ rfl _ _ 27 rfl w.heap.size 23 i0 _ 4 32 Try.underlying27 ki kz0 kz1 kz2 rfl (by decide) _ _ _ rfl ho5.out ⟨w2.heap.size, 0, none⟩ 1 1 (qc (k0, k1, k2, k3)) rfl rfl (fun j u hu => cell_new _ _ _ j u hu) (by simp [qc, Value.oneCell']) (by omega) (by unfold maxLen; omega) (by omega) h5.out.bel.size _ rfl ?_)
              intro gg cap6 w6 hown6 hgrow6 hat6 hlt6
              have HN := after6 (HL := HL.out) h5.out ho5.out HFv.out hown6 hgrow6 hat6 (by simp)
              clear hown6 hgrow6 hat6
              go_wp2_with fail
              go_roundw
              case rel => exact ⟨pp + 1 + 1, _, pre ++ [(k0, k1, k2, k3)], rest, (by push_cast; omega), by omega, rfl, HN.1, by (show _ = _); rw [List.length_append, HL.out]; rfl, by rw [← HPR.out]; show _ = _; simp, HN.2.1, HN.2.2⟩
              case measure => simp [intOf]; omega
          · have hr0 : rest = [] := by
              have h := congrArg List.length HPR.out
              rw [List.length_append, HL.out] at h
              exact List.eq_nil_of_length_eq_zero (by omega)
            subst hr0
            have hL := Lib.hid (hlen_m hX.a)
            have Hb := Lib.hid hX.bel
            have epl : ii = (m.length : Int) := by omega
            subst epl
            clear hX HPR HOut HFv
            go_wp2_with fail
            refine hL.out.mono ?_
            rintro e w5 ⟨rfl, rfl⟩
            go_wp2_with fail
            go_ret
            exact ⟨rfl, Hb.out⟩
end Go.Proofs.Ytaogdgbijjjpjaa
