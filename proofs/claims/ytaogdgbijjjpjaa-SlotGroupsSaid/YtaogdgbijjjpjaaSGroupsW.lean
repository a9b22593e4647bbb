/- SlotGroups: the walk. -/
import Derived.Test.YtaogdgbijjjpjaaSL8
import Derived.Test.YtaogdgbijjjpjaaSGP
namespace Go.Proofs.Ytaogdgbijjjpjaa
open Go.RowKit
set_option linter.unusedVariables false

/-- Two tables, apart in memory. -/
structure T2 (w0 w : World) (pa pb : Nat) (Fa Fb : Nat → Prop) (la lb : List Q) : Prop where
  a : SO w0 w pa 256 Fa la
  b : SO w0 w pb 256 Fb lb
  ap : ∀ k, Fa k → ¬ Fb k
section
variable {pa pb : Nat} {Fa Fb : Nat → Prop} {la lb l' : List Q} {w0 w w' : World}
theorem T2.swap (h : T2 w0 w pa pb Fa Fb la lb) : T2 w0 w pb pa Fb Fa lb la := ⟨h.b, h.a, fun k hb ha => h.ap k ha hb⟩
theorem T2.below (h : T2 w0 w pa pb Fa Fb la lb) (hb : Below w.heap.size w w') : T2 w0 w' pa pb Fa Fb la lb := ⟨h.a.below hb, h.b.below hb, h.ap⟩
theorem T2.resA {id g len f t x y : Int} (h : T2 w0 w pa pb Fa Fb la lb) (hE : resM 256 la id g len f t = (x, y, l')) :
    Calls Try.prog 33 #[.pointer (some ⟨pa, 0, none⟩), .int .i64 id, .int .i64 g, .int .i64 len, .int .i64 f, .int .i64 t] w fun e w' => e = .returned (.tuple #[.int .i64 x, .int .i64 y]) ∧ ∃ Fa', T2 w0 w' pa pb Fa' Fb l' lb ∧ Fr Fa w w' :=
  (h.a.reserve hE).mono fun _ _ ⟨he, F', hS, hF, hf⟩ => ⟨he, F', ⟨hS, h.b.keep hf (fun k hb ha => h.ap k ha hb) hS.bel, fun k ha hb => (hF k ha).elim (fun ha => h.ap k ha hb) fun hk => by have := (h.b.a.flt k hb).1; omega⟩, hf⟩
theorem T2.resB {id g len f t x y : Int} (h : T2 w0 w pa pb Fa Fb la lb) (hE : resM 256 lb id g len f t = (x, y, l')) :
    Calls Try.prog 33 #[.pointer (some ⟨pb, 0, none⟩), .int .i64 id, .int .i64 g, .int .i64 len, .int .i64 f, .int .i64 t] w fun e w' => e = .returned (.tuple #[.int .i64 x, .int .i64 y]) ∧ ∃ Fb', T2 w0 w' pa pb Fa Fb' la l' :=
  (h.swap.resA hE).mono fun _ _ ⟨he, F', hS, hf⟩ => ⟨he, F', hS.swap⟩
theorem T2.new (hb : Below w0.heap.size w0 w) :
    Calls Try.prog 31 #[.int .i64 256] w fun e w1 => ∃ pa Fa, e = .returned (.tuple #[.pointer (some ⟨pa, 0, none⟩), .int .i64 0]) ∧
      Calls Try.prog 31 #[.int .i64 256] w1 fun e w2 => ∃ pb Fb, e = .returned (.tuple #[.pointer (some ⟨pb, 0, none⟩), .int .i64 0]) ∧ T2 w0 w2 pa pb Fa Fb [] [] := by
  refine (SO.new hb 256 (by omega) (by omega)).mono ?_
  rintro e w1 ⟨pa, Fa, rfl, h1, _, _⟩
  refine ⟨pa, Fa, rfl, (SO.new h1.bel 256 (by omega) (by omega)).mono ?_⟩
  rintro e w2 ⟨pb, Fb, rfl, h2, hF, hb2⟩
  exact ⟨pb, Fb, rfl, h1.below hb2, h2, fun k ha hk => by have := (h1.a.flt k ha).1; have := hF k hk; omega⟩
end
theorem res_len1 (l : List Q) (id g len f t : Int) : (resM 256 l id g len f t).2.2.length ≤ l.length + 1 := by
  unfold resM
  split
  · simp
  · split
    · simp
    · split
      · simp
      · split
        · simp
        · simp

set_option maxHeartbeats 8000000 in
set_option maxRecDepth 100000 in
theorem sgroups_walk (a0 : Option Addr) (n0 c0 : Nat) (ys : List (Int × Int × Int × Int × Int × Int)) (G : Int) (w : World) (h1 : A6In w.heap.size w a0 n0 ys) (l1 : n0 ≤ 9223372036854775807) (r1 : (Lit.int .u8 G).wf = true) :
    Calls Try.prog 13 #[.slice a0 n0 c0, .int .u8 G] w fun e w' => e = .returned (.bool true) ∧ Below w.heap.size w w' := by
  have hys := h1.1
  have hG : 0 ≤ G ∧ G ≤ 255 := by
    simp [Lit.wf] at r1
    have e1 : IntKind.u8.min = 0 := rfl
    have e2 : IntKind.u8.max = 255 := rfl
    omega
  obtain ⟨G0, G1⟩ := hG
  clear r1
  by_cases hbig : 40 < n0
  · go_enter Try.func13, Try.ntmps13
    go_wp2_with fail
    refine (sawake_any _).mono ?_
    rintro e w1 ⟨rfl, hb1⟩
    go_wp2_with fail
    refine (sawake_any _).mono ?_
    rintro e w2 ⟨rfl, hb2⟩
    go_wp2_with fail
    go_ret
    exact ⟨rfl, hb1.trans (hb2.mono hb1.size)⟩
  · have hn0 : n0 ≤ 40 := by omega
    have H1 := Lib.hid h1
    clear h1
    obtain ⟨K, hK⟩ : ∃ K, G % 3 = K := ⟨_, rfl⟩
    have hK0 : 0 ≤ K ∧ K ≤ 2 := by omega
    obtain ⟨hK1, hK2⟩ := hK0
    have htm : G.tmod 3 = G % 3 := Int.tmod_eq_emod_of_nonneg G0
    have hKw : IntKind.u8.wrap K = K := by rw [IntKind.wrap_u8]; omega
    go_enter Try.func13, Try.ntmps13
    go_wp2_with fail
    refine (sawake_any _).mono ?_
    rintro e w1 ⟨rfl, hb1⟩
    go_wp2_with fail
    refine (few_any w.heap.size a0 n0 c0 ys w1 (H1.out.keep hb1) hb1.size l1).mono ?_
    rintro e w2 ⟨⟨bb, rfl, _⟩, hb2⟩
    have hb02 := hb1.trans (hb2.mono hb1.size)
    cases bb
    · go_wp2_with fail
      refine (sawake_any _).mono ?_
      rintro e w3 ⟨rfl, hb3⟩
      go_wp2_with fail
      go_ret
      exact ⟨rfl, hb02.trans (hb3.mono hb02.size)⟩
    · have Hb02 := Lib.hid hb02
      clear hb1 hb2 hb02
      go_wp2_with fail
      refine (T2.new Hb02.out).mono ?_
      rintro e w3 ⟨pa, Fa, rfl, hN⟩
      go_wp2_with fail
      refine hN.mono ?_
      rintro e w4 ⟨pb, Fb, rfl, h4⟩
      clear hN
      have H4 := Lib.hid h4
      clear h4
      go_wp2_with fail
      go_loopw [10] (fun si wr => ∃ (i : Nat) (la : List Q) (Fa Fb : Nat → Prop), i ≤ n0 ∧ si = .int .i64 i ∧ la.length ≤ i ∧ Hid (Below_ la i) ∧ T2 w wr pa pb Fa Fb la (grp K la)) (fun si _ => n0 - (intOf si).toNat)
      case atStart => exact ⟨0, [], Fa, Fb, Nat.zero_le _, rfl, Nat.le_refl _, (fun s hs => by simp at hs), H4.out⟩
      case round =>
        clear H4
        obtain ⟨i, la, Fa, Fb, hi, rfl, hla, HBl, hT⟩ := hrel
        by_cases hlt : i < n0
        · obtain ⟨b, off, rfl, hbB, hcc⟩ := (H1.out.keep hT.a.bel).2 (by omega)
          have hA := hcc i (by omega)
          generalize (ys[i]'(by omega)) = act at *
          obtain ⟨x0, x1, x2, x3, x4, x5⟩ := act
          obtain ⟨A0, A1, A2, A3, A4, A5⟩ := hA
          simp only at A0 A1 A2 A3 A4 A5
          have hiI : (i : Int) < (n0 : Int) := by omega
          have HT := Lib.hid hT
          clear hcc hT
          go_upto_region 12 with fail
          have hT3 := HT.out.below (bel_alloc (Below.refl wr.heap.size wr) (.cells #[.int .i64 x0, .int .i64 x1, .int .i64 x2, .int .i64 x3, .int .i64 x4, .int .i64 x5] 57))
          have d2 := cell_newb wr #[.int .i64 x0, .int .i64 x1, .int .i64 x2, .int .i64 x3, .int .i64 x4, .int .i64 x5] 57 _ 2 _ rfl rfl
          have d3 := cell_newb wr #[.int .i64 x0, .int .i64 x1, .int .i64 x2, .int .i64 x3, .int .i64 x4, .int .i64 x5] 57 _ 3 _ rfl rfl
          have d4 := cell_newb wr #[.int .i64 x0, .int .i64 x1, .int .i64 x2, .int .i64 x3, .int .i64 x4, .int .i64 x5] 57 _ 4 _ rfl rfl
          have d5 := cell_newb wr #[.int .i64 x0, .int .i64 x1, .int .i64 x2, .int .i64 x3, .int .i64 x4, .int .i64 x5] 57 _ 5 _ rfl rfl
          have hbx : ¬ Fa wr.heap.size := fun hk => by have := (HT.out.a.a.flt _ hk).1; omega
          have hlx : wr.heap.size < (wr.alloc (.cells #[.int .i64 x0, .int .i64 x1, .int .i64 x2, .int .i64 x3, .int .i64 x4, .int .i64 x5] 57)).heap.size := by simp
          have HOwn := Lib.hid (res_own (k := x2) (len := x3) (f := x4) (t := x5) HBl.out (by omega : la.length < 256))
          have HOth : Hid (x2 ≠ K → grp K (resM 256 la i x2 x3 x4 x5).2.2 = grp K la) := fun h => res_other h
          have HNew := Lib.hid (res_new (room := 256) (g := x2) (len := x3) (f := x4) (t := x5) HBl.out)
          have hl1 := res_len1 la i x2 x3 x4 x5
          obtain ⟨rx, ry, la', hres⟩ : ∃ rx ry la', resM 256 la i x2 x3 x4 x5 = (rx, ry, la') := ⟨_, _, _, rfl⟩
          have HA := Lib.hid (hT3.resA hres)
          rw [hres] at HOwn HOth HNew hl1
          simp only at HOwn HOth HNew hl1
          clear hT3 A0 A1 A2 A3 A4 A5 hres HT HBl
          generalize wr.alloc (.cells #[.int .i64 x0, .int .i64 x1, .int .i64 x2, .int .i64 x3, .int .i64 x4, .int .i64 x5] 57) = w5 at *
          generalize wr.heap.size = bx at *
          go_wp2_with fail
          refine HA.out.mono ?_
          rintro e w6 ⟨rfl, Fa', hT6, hf6⟩
          have e2 := (hf6.cell (p := ⟨bx, 2, none⟩) hlx hbx).trans d2
          have e3 := (hf6.cell (p := ⟨bx, 3, none⟩) hlx hbx).trans d3
          have e4 := (hf6.cell (p := ⟨bx, 4, none⟩) hlx hbx).trans d4
          have e5 := (hf6.cell (p := ⟨bx, 5, none⟩) hlx hbx).trans d5
          have HT6 := Lib.hid hT6
          clear hT6 hf6 d2 d3 d4 d5 HA
          by_cases hg : x2 = K
          · obtain ⟨eq1, eq2⟩ := HOwn.out
            obtain ⟨sx, sy, lb', hres2⟩ : ∃ sx sy lb', resM 256 (grp x2 la) i x2 x3 x4 x5 = (sx, sy, lb') := ⟨_, _, _, rfl⟩
            rw [hres2] at eq1 eq2
            simp only [Prod.mk.injEq] at eq1 eq2
            obtain ⟨rfl, rfl⟩ := eq1
            have HB := Lib.hid (HT6.out.resB (l' := lb') (x := rx) (y := ry) (by rw [← hg]; exact hres2))
            have HEq : Hid (grp K la' = lb') := by rw [← hg]; exact eq2
            subst hg
            clear hres2 eq2
            go_wp2_with fail
            refine HB.out.mono ?_
            rintro e w7 ⟨rfl, Fb', hT7⟩
            have HT7 := Lib.hid hT7
            clear hT7
            go_wp2_with fail
            go_roundw
            case rel => exact ⟨i + 1, la', Fa', Fb', by omega, by go_num, by omega, HNew.out, by rw [HEq.out]; exact HT7.out⟩
            case measure => simp [intOf]; omega
          · have HEq : Hid (grp K la' = grp K la) := HOth.out hg
            go_wp2_with fail
            go_roundw
            case rel => exact ⟨i + 1, la', Fa', Fb, by omega, by go_num, by omega, HNew.out, by rw [HEq.out]; exact HT6.out⟩
            case measure => simp [intOf]; omega
        · have HB : Hid (Calls Try.prog 37 #[.pointer (some ⟨pb, 0, none⟩)] wr fun e w' => ∃ (a : Option Addr) (c : Nat), e = .returned (.slice a (grp K la).length c) ∧ Below wr.heap.size wr w') := hT.b.all.mono fun e w' ⟨a, c, l', he, hp, _, _, hb⟩ => ⟨a, c, by rw [he, hp.length_eq], hb⟩
          have HT := Lib.hid hT
          have hle : (grp K la).length ≤ la.length := List.length_filter_le _ _
          obtain ⟨M, hM⟩ : ∃ M, (grp K la).length = M := ⟨_, rfl⟩
          rw [hM] at hle HB
          clear hT hM
          go_wp2_with fail
          refine HB.out.mono ?_
          rintro e w6 ⟨a6, c6, rfl, hb6⟩
          have hT6 := HT.out.below hb6
          have HA : Hid (Calls Try.prog 37 #[.pointer (some ⟨pa, 0, none⟩)] w6 fun e w' => ∃ (a : Option Addr) (c : Nat), e = .returned (.slice a la.length c) ∧ Below w.heap.size w w') := hT6.a.all.mono fun e w' ⟨a, c, l', he, hp, _, _, hb⟩ => ⟨a, c, by rw [he, hp.length_eq], hT6.a.bel.trans (hb.mono hT6.a.bel.size)⟩
          have hd : decide ((M : Int) ≤ (la.length : Int)) = true := decide_eq_true (by omega)
          have hd2 : (M : Int) ≤ (la.length : Int) := by omega
          clear hT6 hb6 HB HT
          go_wp2_with fail
          refine HA.out.mono ?_
          rintro e w7 ⟨a7, c7, rfl, hb7⟩
          go_wp2_with fail
          go_ret
          exact ⟨rfl, hb7⟩
end Go.Proofs.Ytaogdgbijjjpjaa
