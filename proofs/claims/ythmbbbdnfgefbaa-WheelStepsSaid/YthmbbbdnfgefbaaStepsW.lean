/- WALK: WheelSteps. -/
import Derived.Test.YthmbbbdnfgefbaaTwoW
namespace Go.Proofs.Ythmbbbdnfgefbaa
open Go.RowKit
set_option linter.unusedVariables false

def U16In (B : Nat) (w : World) (a : Option Addr) (n : Nat) (xs : List Int) : Prop :=
  xs.length = n ∧ (0 < n → ∃ b off, a = some ⟨b, off, none⟩ ∧ b < B ∧ ∀ j (h : j < xs.length), w.cell? ⟨b, off + j, none⟩ = some (.int .u16 xs[j]))
theorem U16In.keep {w w' : World} {a : Option Addr} {n B : Nat} {xs : List Int} (h : U16In B w a n xs) (hb : Below B w w') : U16In B w' a n xs :=
  ⟨h.1, fun hn => by
    obtain ⟨b, off, e, hlt, hc⟩ := h.2 hn
    exact ⟨b, off, e, hlt, fun j hj => (hb.cell (p := ⟨b, off + j, none⟩) hlt).trans (hc j hj)⟩⟩

set_option maxHeartbeats 4000000 in
set_option maxRecDepth 100000 in
theorem steps_walk (a0 : Option Addr) (n0 c0 : Nat) (ys : List (Int × Int)) (a1 : Option Addr) (n1 c1 : Nat) (ss : List Int) (w : World)
    (h1 : PairsIn w.heap.size w a0 n0 ys) (l1 : n0 ≤ 9223372036854775807) (r1 : ∀ z ∈ ys, (Lit.int .i64 z.1).wf = true ∧ (Lit.int .i64 z.2).wf = true)
    (h2 : U16In w.heap.size w a1 n1 ss) (l2 : n1 ≤ 9223372036854775807) (r2 : ∀ z ∈ ss, (Lit.int .u16 z).wf = true) :
    Calls Try.prog 4 #[.slice a0 n0 c0, .slice a1 n1 c1] w fun e w' => e = .returned (.bool true) ∧ Below w.heap.size w w' := by
  have hss : ∀ j (h : j < ss.length), 0 ≤ ss[j] ∧ ss[j] ≤ 65535 := by
    intro j hj
    have := r2 ss[j] (List.getElem_mem hj)
    simp [Lit.wf] at this
    have e1 : IntKind.u16.min = 0 := rfl
    have e2 : IntKind.u16.max = 65535 := rfl
    omega
  have Hss := Lib.hid hss
  clear r1 r2 hss
  by_cases hbig : 200 < n0 ∨ 100 < n1 ∨ n1 = 0
  · by_cases hb0 : 200 < n0
    · go_enter Try.func4, Try.ntmps4
      go_wp2_with fail
      refine (awake_any _).mono ?_
      rintro e w1 ⟨rfl, hb1⟩
      go_wp2_with fail
      refine (awake_any _).mono ?_
      rintro e w2 ⟨rfl, hb2⟩
      go_wp2_with fail
      go_ret
      exact ⟨rfl, hb1.trans (hb2.mono hb1.size)⟩
    · have hb0' : n0 ≤ 200 := by omega
      by_cases hb1 : 100 < n1
      · go_enter Try.func4, Try.ntmps4
        go_wp2_with fail
        refine (awake_any _).mono ?_
        rintro e w1 ⟨rfl, hb1⟩
        go_wp2_with fail
        refine (awake_any _).mono ?_
        rintro e w2 ⟨rfl, hb2⟩
        go_wp2_with fail
        go_ret
        exact ⟨rfl, hb1.trans (hb2.mono hb1.size)⟩
      · obtain rfl : n1 = 0 := by omega
        clear hbig
        go_enter Try.func4, Try.ntmps4
        go_wp2_with fail
        refine (awake_any _).mono ?_
        rintro e w1 ⟨rfl, hb1⟩
        go_wp2_with fail
        refine (awake_any _).mono ?_
        rintro e w2 ⟨rfl, hb2⟩
        go_wp2_with fail
        go_ret
        exact ⟨rfl, hb1.trans (hb2.mono hb1.size)⟩
  · have hn0 : n0 ≤ 200 := by omega
    have hn1 : n1 ≤ 100 := by omega
    have hn1p : 1 ≤ n1 := by omega
    have hnz : ((n1 : Int) == 0) = false := by simp; omega
    clear hbig
    obtain ⟨i0, ki, kz0, kz1, kz2⟩ := info_parts Try.info30
    go_enter Try.func4, Try.ntmps4
    go_wp2_with fail
    refine (awake_any _).mono ?_
    rintro e w1 ⟨rfl, hb1⟩
    go_wp2_with fail
    refine (new_m w.heap.size 1024 _ (by omega) (by omega) hb1.size).mono ?_
    rintro e w2 ⟨⟨pa, Fa, rfl, hWa, hFa⟩, hb2⟩
    have hbw2 : Below w.heap.size w w2 := hb1.trans (hb2.mono hb1.size)
    go_wp2_with fail
    refine (new_m w.heap.size 1024 _ (by omega) (by omega) hbw2.size).mono ?_
    rintro e w3 ⟨⟨pb, Fb, rfl, hWb, hFb⟩, hb3⟩
    have hW : W2 w w3 pa pb 1024 Fa Fb 0 0 [] [] := ⟨hWa.below hb3, hWb, fun k ha hb => by have := (hWa.flt k ha).1; have := hFb k hb; omega, hbw2.trans (hb3.mono hbw2.size)⟩
    have hW' : ∃ m, W2 w w3 pa pb 1024 Fa Fb 0 0 m m := ⟨_, hW⟩
    clear hWa hWb hFa hFb hb1 hb2 hb3 hbw2 hW
    obtain ⟨m0, hW⟩ := hW'
    go_wp2_with fail
    go_loopw [9] (fun i wr => ∃ (j : Nat) (m : List (Int × Int)) (Fa Fb : Nat → Prop), j ≤ n0 ∧ i = .int .i64 j ∧ W2 w wr pa pb 1024 Fa Fb 0 0 m m) (fun i _ => n0 - (intOf i).toNat)
    case atStart => exact ⟨0, m0, Fa, Fb, Nat.zero_le _, rfl, hW⟩
    case round =>
      clear hW m0 Fa Fb
      obtain ⟨j, m, Fa, Fb, hj, rfl, hW⟩ := hrel
      by_cases hlt : j < n0
      · obtain ⟨hyl, hy⟩ := h1.keep hW.bel
        obtain ⟨b, off, rfl, hbB, hcc⟩ := hy (by omega)
        obtain ⟨da, hda⟩ : ∃ g, ys[j].1 = g := ⟨_, rfl⟩
        obtain ⟨di, hdi⟩ : ∃ g, ys[j].2 = g := ⟨_, rfl⟩
        have HC : Hid (∀ w', Below w.heap.size w w' → w'.cell? ⟨b, off + j * 2, none⟩ = some (.int .i64 da) ∧ w'.cell? ⟨b, off + j * 2 + 1, none⟩ = some (.int .i64 di)) := by
          intro w' hb
          obtain ⟨b', off', e, _, hc'⟩ := (h1.keep hb).2 (by omega)
          simp at e
          obtain ⟨rfl, rfl⟩ := e
          have := hc' j (by omega)
          rw [hda, hdi] at this
          exact this
        clear hy hcc hda hdi
        have hjI : (j : Int) < (n0 : Int) := by omega
        obtain ⟨cg, ct⟩ := HC.out wr hW.bel
        go_wp2_with fail
        go_region_held3 (fun w' => w'.cell? ⟨b, off + j * 2, none⟩ = some (.int .i64 da) ∧ w'.cell? ⟨b, off + j * 2 + 1, none⟩ = some (.int .i64 di)) (first | exact HC.out _ (by assumption) | go_keep)
          (first | (go_at_call_of 15 (Value.pointer (some ⟨pa, 0, none⟩)); refine ((hW.drew).addA da di).mono ?_; rintro e w7 ⟨rfl, Fa', hW7⟩; have hbel7 := hW7.bel) | (go_at_call_of 15 (Value.pointer (some ⟨pb, 0, none⟩)); refine (hW7.addB da di).mono ?_; rintro e w8 ⟨rfl, Fb', hW8⟩; have hbel8 := hW8.bel))
        go_wp2_with fail
        go_roundw
        case rel => exact ⟨j + 1, _, Fa', Fb', by omega, by go_num, hW8⟩
        case measure => simp [intOf]; omega
      · have hsm : Srt m := hW.a.srt
        have hm0 : ∀ d ∈ m, 0 ≤ d.1 := fun d hd => (hW.a.mem hd).1
        have e1 : m.filter (fun d => !decide (d.1 < 0)) = m := List.filter_eq_self.2 fun d hd => by have := hm0 d hd; simp; omega
        have e2 : m.filter (fun d => decide (d.1 < 0)) = [] := List.filter_eq_nil_iff.2 fun d hd => by have := hm0 d hd; simp; omega
        have hml : m.length ≤ 1024 := by have := hW.a.len; omega
        have Hsm := Lib.hid hsm
        have HA : Hid (W2 w wr pa pb 1024 Fa Fb 0 0 (m.filter fun d => !decide (d.1 < 0)) m) := by show W2 _ _ _ _ _ _ _ _ _ _ _; rw [e1]; exact hW
        have HO : Hid (Out w wr Fa Fb (.slice none 0 0) (m.filter fun d => decide (d.1 < 0))) := by show Out _ _ _ _ _ _; rw [e2]; exact ⟨World.ownsRow_nil _ _ _ _, by simp [Value.ownBlock], fun _ => rfl⟩
        clear hsm hm0 e1 e2 hW
        have hn1I : (1 : Int) ≤ (n1 : Int) := by omega
        go_wp2_with fail
        go_loopw [10, 11, 12] (fun so st sq wr => ∃ (q : Nat) (t bd : Int) (Fa Fb : Nat → Prop), q ≤ n1 ∧ sq = .int .i64 q ∧ st = .int .i64 t ∧ 0 ≤ t ∧ t ≤ q * 65535 ∧ bd ≤ t + 1 ∧ Hid (0 < q → bd = t + 1) ∧ W2 w wr pa pb 1024 Fa Fb t 0 (m.filter fun d => !decide (d.1 < bd)) m ∧ Out w wr Fa Fb so (m.filter fun d => decide (d.1 < bd))) (fun _ _ sq _ => n1 - (intOf sq).toNat)
        case atStart => exact ⟨0, 0, 0, Fa, Fb, Nat.zero_le _, rfl, rfl, by omega, by omega, by omega, (by intro h; omega), HA.out, HO.out⟩
        case round =>
          clear HA HO Fa Fb
          obtain ⟨q, t, bd, Fa, Fb, hq, rfl, rfl, ht0, htq, hbd, hbq, hW, hO⟩ := hrel
          by_cases hqn : q < n1
          · obtain ⟨b, off, rfl, hbB, hcc⟩ := (h2.keep hW.bel).2 (by omega)
            have hsl := h2.1
            have hcell := hcc q (by omega)
            obtain ⟨hs0, hs1⟩ := Hss.out q (by omega)
            generalize ss[q] = sv at *
            have H2 := Lib.hid h2
            clear h2 hcc
            have hqI : (q : Int) < (n1 : Int) := by omega
            have hV := hW.advA (t + sv) (by omega) (by omega)
            rw [le_lt] at hV
            have hst := filter_steps Hsm.out bd (t + sv + 1) (by omega)
            have h2f := filter_two m bd (t + sv + 1) (by omega)
            have hfun : (fun d : Int × Int => !decide (d.1 ≤ t + sv)) = fun d => !decide (d.1 < t + sv + 1) := by funext d; rw [congrFun (le_lt (t + sv)) d]
            rw [hfun, h2f] at hV
            have hln : (m.filter fun d => decide (d.1 < t + sv + 1)).length ≤ 1024 := Nat.le_trans (List.length_filter_le _ _) hml
            have HV := Lib.hid hV
            have Hst := Lib.hid hst
            clear hV hst h2f hfun
            generalize hxl : (m.filter fun d => !decide (d.1 < bd)).filter (fun d => decide (d.1 < t + sv + 1)) = xl at *
            generalize hol : m.filter (fun d => decide (d.1 < bd)) = ol at *
            generalize hnl : m.filter (fun d => decide (d.1 < t + sv + 1)) = nl at *
            have hlens : ol.length + xl.length ≤ 1024 := by have := Hst.out; rw [← this] at hln; simpa using hln
            have Hnl := Lib.hid hnl
            clear hxl hol hnl
            have hbase := hW.bel.size
            go_wp2_with fail
            refine HV.out.mono ?_
            rintro e w4 ⟨xa, xc, Fa', rfl, hX, hW4, hF4, hf4⟩
            have hO4 := hO.keep hf4 (fun g hg => (hO.fa g hg).1) hF4
            have hb4 := hW4.bel.size
            have hszz := hf4.size
            clear HV hW hO hf4 hF4
            by_cases hx0 : xl.length = 0
            · have hnil : xl = [] := List.eq_nil_of_length_eq_zero hx0
              have hvn := hX.z hnil
              simp only [Value.slice.injEq] at hvn
              obtain ⟨rfl, _, rfl⟩ := hvn
              subst hnil
              have hoz := hO4.own
              go_wp2_with (at_builtin; refine wpList_append_own_none rfl _ _ 28 rfl w.heap.size 30 i0 2 Try.underlying28 ki _ _ _ rfl hoz rfl ?_)
              go_wp2_with fail
              go_roundw
              case rel => exact ⟨q + 1, t + sv, t + sv + 1, Fa', Fb, by omega, by go_num, rfl, by omega, by omega, by omega, (by intro _; rfl), hW4, by rw [Hnl.out, ← Hst.out]; simpa using hO4⟩
              case measure => simp [intOf]; omega
            · obtain ⟨g3, c3, hv3, hg3, hg3lt, _, hcell3, _⟩ := ownsRow_cells hX.own (by omega)
              simp only [Value.slice.injEq] at hv3
              obtain ⟨hv31, _, hv32⟩ := hv3
              subst hv31
              clear hv32
              have hnews : ∀ j u, (xl.flatMap dueC)[j]? = some u → w4.cell? ((⟨g3, 0, none⟩ : Addr).add j) = some u := fun j u hu => by rw [add_none, Nat.zero_add]; exact hcell3 j u hu
              have hone : ∀ u ∈ xl.flatMap dueC, u.oneCell' = true := by
                intro u hu
                simp only [List.mem_flatMap] at hu
                obtain ⟨x, _, hu⟩ := hu
                simp [dueC] at hu
                rcases hu with rfl | rfl <;> rfl
              have Hnews := Lib.hid hnews
              have Hone := Lib.hid hone
              have Hfl := Lib.hid (flat_length xl)
              clear hnews hone hcell3 hX
              have hnpos : 0 < xl.length := by omega
              have hoz := hO4.own
              go_wp2_with (at_builtin; refine wpList_append_lies _ rfl _ _ 28 rfl w.heap.size 30 i0 (.agg #[.int .i64 0, .int .i64 0]) 2 16 Try.underlying28 ki kz0 kz1 kz2 rfl (by decide) _ _ _ rfl hoz ⟨g3, 0, none⟩ xl.length xc (xl.flatMap dueC) rfl Hfl.out Hnews.out Hone.out hnpos (by unfold maxLen; omega) (by omega) (by omega) w4.heap.size rfl ?_)
              intro gg cap2 w5 hown5 hgrow hat hlt5
              have hfg : Fr (fun k => Value.ownBlock u10 = some k) w4 w5 := ⟨hgrow.os, hgrow.tape, hgrow.output, hgrow.size, fun k hk hne => hgrow.block k hk (fun e => hne e.symm)⟩
              have hW5 := hW4.keep hfg (fun k hk hc => (hO4.fa k hc).1 hk) (fun k hk hc => (hO4.fa k hc).2 hk) (fun k _ hc => ownsRow_block hoz k hc)
              have hO5 : Out w w5 Fa' Fb (.slice (some ⟨gg, 0, none⟩) (ol.length + xl.length) cap2) (ol ++ xl) := by
                refine ⟨by simpa using hown5, fun g hg => ?_, fun he => by have h0 := (List.append_eq_nil_iff.1 he).2; rw [h0] at hnpos; simp at hnpos⟩
                simp only [Value.ownBlock, Option.some.injEq] at hg
                subst hg
                rcases hat with hat | hat
                · exact hO4.fa gg hat
                · exact ⟨fun hc => by have := (hW4.a.flt gg hc).1; omega, fun hc => by have := (hW4.b.flt gg hc).1; omega⟩
              clear hown5 hgrow hat hfg hO4 hoz hW4
              go_wp2_with fail
              go_roundw
              case rel => exact ⟨q + 1, t + sv, t + sv + 1, Fa', Fb, by omega, by go_num, rfl, by omega, by omega, by omega, (by intro _; rfl), hW5, by rw [Hnl.out, ← Hst.out]; exact hO5⟩
              case measure => simp [intOf]; omega
          · obtain rfl : q = n1 := by omega
            have hbde := hbq.out (by omega)
            subst hbde
            have hV := hW.swap.advA t (by omega) (by omega)
            rw [le_lt] at hV
            have hfun : (fun d : Int × Int => !decide (d.1 ≤ t)) = fun d => !decide (d.1 < t + 1) := by funext d; rw [congrFun (le_lt t) d]
            rw [hfun] at hV
            have HV := Lib.hid hV
            have hll : (m.filter fun d => decide (d.1 < t + 1)).length ≤ 1024 := Nat.le_trans (List.length_filter_le _ _) hml
            obtain ⟨oa, oc, hfo⟩ := ownsRow_form hO.own
            subst hfo
            clear hV hfun hbq
            generalize (m.filter fun d => decide (d.1 < t + 1)) = ol at *
            generalize (m.filter fun d => !decide (d.1 < t + 1)) = rl at *
            have hbase := hW.bel.size
            go_wp2_with fail
            refine HV.out.mono ?_
            rintro e w4 ⟨xa, xc, Fb', rfl, hX, hW4, hF4, hf4⟩
            have hW4 := hW4.swap
            have hO4 : w4.ownsRow w.heap.size 30 2 (.slice oa ol.length oc) ol.length (ol.flatMap dueC) := ownsRow_keep hO.own fun k hk => hf4.block k (ownsRow_lt hO.own k hk) (fun hc => (hO.fa k hk).2 hc)
            have hD1 := dues_of_own hO4 rfl
            have hD2 := dues_of_own hX.own rfl
            clear HV hW hO hf4 hF4 hX hO4
            have hS := Lib.hid (same_any _ _ _ _ oc xc ol w4 hD1 hD2 (Nat.le_refl _) (by omega))
            have HLa := Lib.hid (len_m hW4.a)
            clear hD1 hD2
            go_wp2_with fail
            refine hS.out.mono ?_
            rintro e w5 ⟨rfl, hb5⟩
            have hW5a := hW4.a.below hb5
            have hW5b := hW4.b.below hb5
            have hbel5 := hW4.bel.trans (hb5.mono hW4.bel.size)
            go_wp2_with fail
            refine (len_m hW5a).mono ?_
            rintro e w6 ⟨rfl, rfl⟩
            go_wp2_with fail
            refine (len_m hW5b).mono ?_
            rintro e w6 ⟨rfl, rfl⟩
            go_wp2_with fail
            refine (now_m hW5a).mono ?_
            rintro e w6 ⟨rfl, rfl⟩
            go_wp2_with fail
            refine (now_m hW5b).mono ?_
            rintro e w6 ⟨rfl, rfl⟩
            go_wp2_with fail
            go_ret
            exact ⟨by simp, hbel5⟩
end Go.Proofs.Ythmbbbdnfgefbaa
