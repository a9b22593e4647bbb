/- WALKS: the reference's Put. -/
import Derived.Test.YtaogdgbijjjpjaaPutQ
import Derived.Test.YtaogdgbijjjpjaaHCmpW
import Derived.Deep.RegionHeld3
import Derived.Deep.DrawnRows
namespace Go.Proofs.Ytaogdgbijjjpjaa
open Go.RowKit
set_option linter.unusedVariables false

/-- Where a slice lies that is read: nil, or somewhere. -/
def Has (a : Option Addr) (n c : Nat) : Prop := (a = none ∧ n = 0 ∧ c = 0) ∨ ∃ b off, a = some ⟨b, off, none⟩ ∧ n ≤ c ∧ c ≤ 9223372036854775807


/-- What the test of one place reads. -/
structure RdP (w0 : World) (bx : Nat) (k0 k1 k2 k3 : Int) (g o : Nat) (y0 y1 y2 y3 : Int) (W : World) : Prop where
  k : C4 W bx k0 k1 k2 k3
  c0 : W.cell? ⟨g, o, none⟩ = some (.int .i64 y0)
  c1 : W.cell? ⟨g, o + 1, none⟩ = some (.int .i64 y1)
  c2 : W.cell? ⟨g, o + 2, none⟩ = some (.int .i64 y2)
  c3 : W.cell? ⟨g, o + 3, none⟩ = some (.int .i64 y3)
  bel : Below w0.heap.size w0 W

set_option maxHeartbeats 8000000 in
set_option maxRecDepth 100000 in
theorem putK_any (a : Option Addr) (n c : Nat) (l : List Q) (d0 d1 d2 d3 : Int) (w : World) (hm : QsIn w.heap.size w a n l) (hc : Has a n c) (hn : n ≤ 1024) :
    Calls Try.prog 25 #[.slice a n c, .agg #[.int .i64 d0, .int .i64 d1, .int .i64 d2, .int .i64 d3]] w fun e w' => ∃ v, e = .returned v ∧ w'.ownsRow w.heap.size 23 4 v (n + 1) ((insK (d0, d1, d2, d3) l).flatMap qc) ∧ Below w.heap.size w w' := by
  have hll := hm.1
  go_enter Try.func25, Try.ntmps25
  go_wp2_with fail
  generalize hw1 : w.alloc (.cells #[.int .i64 d0, .int .i64 d1, .int .i64 d2, .int .i64 d3] 23) = w1
  have e0 : C4 w1 w.heap.size d0 d1 d2 d3 := by rw [← hw1]; exact C4.new _ _ _ _ _ _ _ rfl
  have hb1 : Below w.heap.size w w1 := by rw [← hw1]; exact (Below.refl _ _).alloc (Nat.le_refl _) _
  have hs1 : w.heap.size < w1.heap.size := by rw [← hw1]; simp
  clear hw1
  have HE := Lib.hid hm
  go_wp2_with fail
  go_loopw [5] (fun i wr => ∃ k : Nat, k ≤ n ∧ i = .int .i64 k ∧ (wr.cell? ⟨w.heap.size, 0, none⟩ = some (.int .i64 d0) ∧ wr.cell? ⟨w.heap.size, 1, none⟩ = some (.int .i64 d1) ∧ wr.cell? ⟨w.heap.size, 2, none⟩ = some (.int .i64 d2) ∧ wr.cell? ⟨w.heap.size, 3, none⟩ = some (.int .i64 d3) ∧ Below w.heap.size w wr ∧ w.heap.size < wr.heap.size) ∧ Hid (∀ j (h : j < l.length), j < k → ltK l[j] (d0, d1, d2, d3) = true)) (fun i _ => n - (intOf i).toNat)
  case atStart => exact ⟨0, Nat.zero_le _, rfl, ⟨e0.c0, e0.c1, e0.c2, e0.c3, hb1, hs1⟩, fun j h hj => by omega⟩
  case round =>
    clear e0 hb1 hs1
    obtain ⟨k, hk, rfl, ⟨g0, g1, g2, g3, hbq, hsq⟩, HL⟩ := hrel
    have HB : Hid (∀ W, Below wr.heap.size wr W → W.cell? ⟨w.heap.size, 0, none⟩ = some (.int .i64 d0) ∧ W.cell? ⟨w.heap.size, 1, none⟩ = some (.int .i64 d1) ∧ W.cell? ⟨w.heap.size, 2, none⟩ = some (.int .i64 d2) ∧ W.cell? ⟨w.heap.size, 3, none⟩ = some (.int .i64 d3) ∧ Below w.heap.size w W ∧ w.heap.size < W.heap.size) := by
      intro W hb
      have q := (⟨g0, g1, g2, g3⟩ : C4 wr w.heap.size d0 d1 d2 d3).below hb
      exact ⟨q.c0, q.c1, q.c2, q.c3, hbq.trans (hb.mono hbq.size), Nat.lt_of_lt_of_le hsq hb.size⟩
    have hbr : Below wr.heap.size wr wr := Below.refl _ _
    go_upto_region 2 with fail
    go_cut [18] (fun s wx => ∃ bb : Bool, s = .bool bb ∧ Hid (bb = true ↔ ∃ h : k < l.length, ltK l[k] (d0, d1, d2, d3) = true) ∧ (wx.cell? ⟨w.heap.size, 0, none⟩ = some (.int .i64 d0) ∧ wx.cell? ⟨w.heap.size, 1, none⟩ = some (.int .i64 d1) ∧ wx.cell? ⟨w.heap.size, 2, none⟩ = some (.int .i64 d2) ∧ wx.cell? ⟨w.heap.size, 3, none⟩ = some (.int .i64 d3) ∧ Below w.heap.size w wx ∧ w.heap.size < wx.heap.size))
    case first =>
      by_cases hkn : k < n
      · obtain ⟨b, off, rfl, hbB, hcc⟩ := (HE.out.keep hbq).2 (by omega)
        have hQ := Lib.hid (hcc k (by omega))
        have HX : Hid (∀ bb : Bool, bb = decide (cmpK l[k] (d0, d1, d2, d3) < 0) → (bb = true ↔ ∃ h : k < l.length, ltK l[k] (d0, d1, d2, d3) = true)) := by
          intro bb he
          rw [he]
          exact ⟨fun h => ⟨by omega, h⟩, fun ⟨_, h⟩ => h⟩
        have HC := Lib.hid (fun W (hb : Below wr.heap.size wr W) => (refCmp_any l[k] (d0, d1, d2, d3) W).mono (R' := fun e w' => e = .returned (.int .i64 (cmpK l[k] (d0, d1, d2, d3))) ∧ Below wr.heap.size wr w') (fun e w' ⟨he, hb'⟩ => ⟨he, hb.trans (hb'.mono hb.size)⟩))
        have HK : Hid (∀ W, Below wr.heap.size wr W → RdP wr w.heap.size d0 d1 d2 d3 b (off + k * 4) l[k].1 l[k].2.1 l[k].2.2.1 l[k].2.2.2 W) := fun W hb => ⟨(⟨g0, g1, g2, g3⟩ : C4 wr w.heap.size d0 d1 d2 d3).below hb, (hQ.out.below hb).c0, (hQ.out.below hb).c1, (hQ.out.below hb).c2, (hQ.out.below hb).c3, hb⟩
        clear hcc hQ hm
        generalize l[k] = y at HX HC HK
        obtain ⟨y0, y1, y2, y3⟩ := y
        unfold qv at HC
        simp only at HC HK HX
        generalize cmpK (y0, y1, y2, y3) (d0, d1, d2, d3) = t at *
        have hknI : (k : Int) < (n : Int) := by omega
        have hk0 : (0 : Int) ≤ (k : Int) := by omega
        have hk1 : decide ((k : Int) < (n : Int)) = true := by simp; omega
        have hk2 : decide (k < n) = true := by simp; omega
        clear g0 g1 g2 g3
        go_region_held3 (fun w' => (w'.cell? ⟨w.heap.size, 0, none⟩ = some (.int .i64 d0) ∧ w'.cell? ⟨w.heap.size, 1, none⟩ = some (.int .i64 d1) ∧ w'.cell? ⟨w.heap.size, 2, none⟩ = some (.int .i64 d2) ∧ w'.cell? ⟨w.heap.size, 3, none⟩ = some (.int .i64 d3) ∧ w'.cell? ⟨b, off + k * 4, none⟩ = some (.int .i64 y0) ∧ w'.cell? ⟨b, off + k * 4 + 1, none⟩ = some (.int .i64 y1) ∧ w'.cell? ⟨b, off + k * 4 + 2, none⟩ = some (.int .i64 y2) ∧ w'.cell? ⟨b, off + k * 4 + 3, none⟩ = some (.int .i64 y3)) ∧ Below wr.heap.size wr w')
          ((first | (obtain ⟨⟨z0, z1, z2, z3⟩, z4, z5, z6, z7, z9⟩ := HK.out _ (bel_drew hbr); exact ⟨⟨z0, z1, z2, z3, z4, z5, z6, z7⟩, z9⟩) | (obtain ⟨⟨z0, z1, z2, z3⟩, z4, z5, z6, z7, z9⟩ := HK.out _ (by assumption); exact ⟨⟨z0, z1, z2, z3, z4, z5, z6, z7⟩, z9⟩)))
          ((go_at_call 16; refine Calls.mono (HC.out _ ?_) ?_; (first | assumption | exact bel_drew hbr); rintro e w2 ⟨rfl, hP2⟩))
        go_wp2_with fail
        go_meet
        case rel => exact ⟨_, rfl, HX.out _ rfl, HB.out _ hP2⟩
      · obtain rfl : k = n := by omega
        clear g0 g1 g2 g3
        go_wp2_with fail
        go_quiet (fail)
        go_wp2_with fail
        go_meet
        case rel => exact ⟨false, rfl, ⟨fun h => by simp at h, fun ⟨h, _⟩ => by omega⟩, HB.out _ (bel_drewN hbr _)⟩
    case rest =>
      obtain ⟨bb, rfl, Hbb, ⟨g0, g1, g2, g3, hbq, hsq⟩⟩ := hcut
      cases bb
      rotate_left
      · obtain ⟨hkl, hlt⟩ := Hbb.out.1 rfl
        have HS : Hid (∀ j (h : j < l.length), j < k + 1 → ltK l[j] (d0, d1, d2, d3) = true) := by
          intro j h hj
          rcases Nat.lt_or_ge j k with hjk | hjk
          · exact HL.out j h hjk
          · obtain rfl : j = k := by omega
            exact hlt
        clear hlt HL Hbb
        go_wp2_with fail
        go_roundw
        case rel => exact ⟨k + 1, by omega, by go_num, ⟨g0, g1, g2, g3, hbq, hsq⟩, HS⟩
        case measure => simp [intOf]; omega
      · have hins : insK (d0, d1, d2, d3) l = l.take k ++ (d0, d1, d2, d3) :: l.drop k := ins_at _ l k HL.out (fun h => by
          cases hc : ltK l[k] (d0, d1, d2, d3)
          · rfl
          · have := Hbb.out.2 ⟨h, hc⟩; simp at this) (by omega)
        have Hins := Lib.hid hins
        clear hins HL Hbb
        rcases hc with ⟨rfl, rfl, rfl⟩ | ⟨b, off, rfl, hnc, hc2⟩
        · obtain rfl : l = [] := List.eq_nil_of_length_eq_zero hll
          obtain rfl : k = 0 := by omega
          obtain ⟨L1, hL1⟩ : ∃ L, L = ([] : List Q) := ⟨_, rfl⟩
          obtain ⟨L3, hL3⟩ : ∃ L, L = ([] : List Q) := ⟨_, rfl⟩
          have hP : PutS w (d0, d1, d2, d3) _ := ⟨⟨g0, g1, g2, g3⟩, hbq, hsq⟩
          have HS1 : Hid (∀ W, PutS w (d0, d1, d2, d3) W → Src W (.slice none 0 0) 0 (L1.flatMap qc)) := fun W _ => .inl ⟨rfl, rfl⟩
          have HS3 : Hid (∀ W, PutS w (d0, d1, d2, d3) W → Src W (.slice none 0 0) 0 (L3.flatMap qc)) := fun W _ => .inl ⟨rfl, rfl⟩
          have Htk : Hid (L1.length = 0) := by show _ = _; rw [hL1]; rfl
          have Hdk : Hid (L3.length = 0) := by show _ = _; rw [hL3]; rfl
          have HL : Hid ([] ++ L1 ++ [(d0, d1, d2, d3)] ++ L3 = insK (d0, d1, d2, d3) []) := by show _ = _; rw [hL1, hL3, Hins.out]; rfl
          have hbk : 0 + 0 ≤ 4096 := by omega
          have hbk1 : 0 + 0 + 1 ≤ 4096 := by omega
          have hbk2 : 0 + 0 + 1 + 0 ≤ 4096 := by omega
          have hltc : w.heap.size < wc.heap.size := hsq
          clear g0 g1 g2 g3 hbq hsq hL1 hL3 Hins hm
          go_wp2_with fail
          go_region_held3 (fun w' => w'.cell? ⟨w.heap.size, 0, none⟩ = some (.int .i64 d0) ∧ w'.cell? ⟨w.heap.size, 1, none⟩ = some (.int .i64 d1) ∧ w'.cell? ⟨w.heap.size, 2, none⟩ = some (.int .i64 d2) ∧ w'.cell? ⟨w.heap.size, 3, none⟩ = some (.int .i64 d3) ∧ PutS w (d0, d1, d2, d3) w') ((refine PutS.three ?_; (focus repeat (first | (with_reducible assumption) | (with_reducible refine PutS.alloc ?_ _) | (with_reducible refine PutS.drew ?_)))))
            (first | ((refine step_put (w0 := w) (d := (d0, d1, d2, d3)) ?_ (.tmp 21) (.tmp 24) ?_ 0 0 [] L1 (Value.slice (some ⟨wc.heap.size, 0, none⟩) 0 0) (Value.slice none 0 0) ?_ ?_ ?_ ?_ ?_ Htk.out hbk ?_; rfl; rfl; rfl; rfl; (focus repeat (first | (with_reducible assumption) | (with_reducible refine PutS.alloc ?_ _) | (with_reducible refine PutS.drew ?_))); (focus repeat (first | (with_reducible assumption) | ((with_reducible refine own_lit2 _ _ _ _ ?_ ?_); rfl; assumption) | ((with_reducible refine own_lit _ _ _ ?_ ?_); (first | rfl | (simp; done)); (first | omega | (simp; omega))) | (with_reducible refine World.ownsRow.drew ?_) | (with_reducible refine World.ownsRow.alloc ?_ _))); (refine HS1.out _ ?_; (focus repeat (first | (with_reducible assumption) | (with_reducible refine PutS.alloc ?_ _) | (with_reducible refine PutS.drew ?_)))); intro v1 w1 hown1 hP1 hgrow1)) | ((refine step_put (w0 := w) (d := (d0, d1, d2, d3)) ?_ (.tmp 21) (.tmp 24) ?_ 0 0 [] L1 (Value.slice (some ⟨wc.heap.size + 1, 0, none⟩) 0 0) (Value.slice none 0 0) ?_ ?_ ?_ ?_ ?_ Htk.out hbk ?_; rfl; rfl; rfl; rfl; (focus repeat (first | (with_reducible assumption) | (with_reducible refine PutS.alloc ?_ _) | (with_reducible refine PutS.drew ?_))); (focus repeat (first | (with_reducible assumption) | ((with_reducible refine own_lit2 _ _ _ _ ?_ ?_); rfl; assumption) | ((with_reducible refine own_lit _ _ _ ?_ ?_); (first | rfl | (simp; done)); (first | omega | (simp; omega))) | (with_reducible refine World.ownsRow.drew ?_) | (with_reducible refine World.ownsRow.alloc ?_ _))); (refine HS1.out _ ?_; (focus repeat (first | (with_reducible assumption) | (with_reducible refine PutS.alloc ?_ _) | (with_reducible refine PutS.drew ?_)))); intro v1 w1 hown1 hP1 hgrow1)) | ((refine step_put (w0 := w) (d := (d0, d1, d2, d3)) ?_ (.tmp 25) (.tmp 27) ?_ (0 + 0) 1 ([] ++ L1) [(d0, d1, d2, d3)] v1 (Value.slice (some ⟨w1.heap.size, 0, none⟩) 1 1) ?_ ?_ ?_ ?_ ?_ rfl hbk1 ?_; rfl; rfl; rfl; rfl; (focus repeat (first | (with_reducible assumption) | (with_reducible refine PutS.alloc ?_ _) | (with_reducible refine PutS.drew ?_))); (focus repeat (first | (with_reducible assumption) | ((with_reducible refine own_lit2 _ _ _ _ ?_ ?_); rfl; assumption) | ((with_reducible refine own_lit _ _ _ ?_ ?_); (first | rfl | (simp; done)); (first | omega | (simp; omega))) | (with_reducible refine World.ownsRow.drew ?_) | (with_reducible refine World.ownsRow.alloc ?_ _))); (focus repeat (first | ((with_reducible refine src_new _ d0 d1 d2 d3 _ ?_); (first | rfl | (simp; done))) | (with_reducible refine src_drew ?_) | ((with_reducible refine src_alloc ?_ ?_ _); rotate_left; (focus (first | (simp; done) | (simp; omega))); rotate_left) | ((with_reducible refine src_far ?_ hgrow1 ?_ ?_); rotate_left; (focus (first | (simp; done) | (simp; omega))); (focus (simp [Value.ownBlock])); rotate_left))); intro v2 w2 hown2 hP2 hgrow2)) | ((refine step_put (w0 := w) (d := (d0, d1, d2, d3)) ?_ (.tmp 25) (.tmp 27) ?_ (0 + 0) 1 ([] ++ L1) [(d0, d1, d2, d3)] v1 (Value.slice (some ⟨wc.heap.size, 0, none⟩) 1 1) ?_ ?_ ?_ ?_ ?_ rfl hbk1 ?_; rfl; rfl; rfl; rfl; (focus repeat (first | (with_reducible assumption) | (with_reducible refine PutS.alloc ?_ _) | (with_reducible refine PutS.drew ?_))); (focus repeat (first | (with_reducible assumption) | ((with_reducible refine own_lit2 _ _ _ _ ?_ ?_); rfl; assumption) | ((with_reducible refine own_lit _ _ _ ?_ ?_); (first | rfl | (simp; done)); (first | omega | (simp; omega))) | (with_reducible refine World.ownsRow.drew ?_) | (with_reducible refine World.ownsRow.alloc ?_ _))); (focus repeat (first | ((with_reducible refine src_new _ d0 d1 d2 d3 _ ?_); (first | rfl | (simp; done))) | (with_reducible refine src_drew ?_) | ((with_reducible refine src_alloc ?_ ?_ _); rotate_left; (focus (first | (simp; done) | (simp; omega))); rotate_left) | ((with_reducible refine src_far ?_ hgrow1 ?_ ?_); rotate_left; (focus (first | (simp; done) | (simp; omega))); (focus (simp [Value.ownBlock])); rotate_left))); intro v2 w2 hown2 hP2 hgrow2)) | ((refine step_put (w0 := w) (d := (d0, d1, d2, d3)) ?_ (.tmp 25) (.tmp 27) ?_ (0 + 0) 1 ([] ++ L1) [(d0, d1, d2, d3)] v1 (Value.slice (some ⟨wc.heap.size + 1, 0, none⟩) 1 1) ?_ ?_ ?_ ?_ ?_ rfl hbk1 ?_; rfl; rfl; rfl; rfl; (focus repeat (first | (with_reducible assumption) | (with_reducible refine PutS.alloc ?_ _) | (with_reducible refine PutS.drew ?_))); (focus repeat (first | (with_reducible assumption) | ((with_reducible refine own_lit2 _ _ _ _ ?_ ?_); rfl; assumption) | ((with_reducible refine own_lit _ _ _ ?_ ?_); (first | rfl | (simp; done)); (first | omega | (simp; omega))) | (with_reducible refine World.ownsRow.drew ?_) | (with_reducible refine World.ownsRow.alloc ?_ _))); (focus repeat (first | ((with_reducible refine src_new _ d0 d1 d2 d3 _ ?_); (first | rfl | (simp; done))) | (with_reducible refine src_drew ?_) | ((with_reducible refine src_alloc ?_ ?_ _); rotate_left; (focus (first | (simp; done) | (simp; omega))); rotate_left) | ((with_reducible refine src_far ?_ hgrow1 ?_ ?_); rotate_left; (focus (first | (simp; done) | (simp; omega))); (focus (simp [Value.ownBlock])); rotate_left))); intro v2 w2 hown2 hP2 hgrow2)) | ((refine step_put (w0 := w) (d := (d0, d1, d2, d3)) ?_ (.tmp 28) (.tmp 31) ?_ (0 + 0 + 1) 0 ([] ++ L1 ++ [(d0, d1, d2, d3)]) L3 v2 (Value.slice none 0 0) ?_ ?_ ?_ ?_ ?_ Hdk.out hbk2 ?_; rfl; rfl; rfl; rfl; (focus repeat (first | (with_reducible assumption) | (with_reducible refine PutS.alloc ?_ _) | (with_reducible refine PutS.drew ?_))); (focus repeat (first | (with_reducible assumption) | ((with_reducible refine own_lit2 _ _ _ _ ?_ ?_); rfl; assumption) | ((with_reducible refine own_lit _ _ _ ?_ ?_); (first | rfl | (simp; done)); (first | omega | (simp; omega))) | (with_reducible refine World.ownsRow.drew ?_) | (with_reducible refine World.ownsRow.alloc ?_ _))); (refine HS3.out _ ?_; (focus repeat (first | (with_reducible assumption) | (with_reducible refine PutS.alloc ?_ _) | (with_reducible refine PutS.drew ?_)))); intro v3 w3 hown3 hP3 hgrow3)))
          all_goals go_wp2_with fail
          all_goals
            go_ret
            refine ⟨v3, rfl, ?_, hP3.bel⟩
            rw [HL.out] at hown3
            exact ownsRow_base (by simpa using hown3) (by omega)
        · have hkc : (k : Int) ≤ (c : Int) := by omega
          have hk0 : (0 : Int) ≤ (k : Int) := by omega
          have hkn : (k : Int) ≤ (n : Int) := by omega
          have hncI : (n : Int) ≤ (c : Int) := by omega
          obtain ⟨L1, hL1⟩ : ∃ L, L = l.take k := ⟨_, rfl⟩
          obtain ⟨L3, hL3⟩ : ∃ L, L = l.drop k := ⟨_, rfl⟩
          have hP : PutS w (d0, d1, d2, d3) _ := ⟨⟨g0, g1, g2, g3⟩, hbq, hsq⟩
          have HS1 : Hid (∀ W, PutS w (d0, d1, d2, d3) W → Src W (.slice (some ⟨b, off, none⟩) k c) k (L1.flatMap qc)) := fun W hW => by rw [hL1]; exact src_take HE.out hW.bel hk
          have HS3 : Hid (∀ W, PutS w (d0, d1, d2, d3) W → Src W (.slice (if c = k then some ⟨b, off, none⟩ else some ⟨b, off + k * 4, none⟩) (n - k) (c - k)) (n - k) (L3.flatMap qc)) := fun W hW => by rw [hL3]; exact src_drop HE.out hW.bel hk hnc
          have Htk : Hid (L1.length = k) := by show _ = _; rw [hL1, List.length_take]; omega
          have Hdk : Hid (L3.length = n - k) := by show _ = _; rw [hL3, List.length_drop]; omega
          have HL : Hid ([] ++ L1 ++ [(d0, d1, d2, d3)] ++ L3 = insK (d0, d1, d2, d3) l) := by show _ = _; rw [hL1, hL3, Hins.out]; simp
          have hbk : 0 + k ≤ 4096 := by omega
          have hbk1 : 0 + k + 1 ≤ 4096 := by omega
          have hbk2 : 0 + k + 1 + (n - k) ≤ 4096 := by omega
          have hltc : w.heap.size < wc.heap.size := hsq
          clear g0 g1 g2 g3 hbq hsq hL1 hL3 Hins hm
          go_wp2_with fail
          go_region_held3 (fun w' => w'.cell? ⟨w.heap.size, 0, none⟩ = some (.int .i64 d0) ∧ w'.cell? ⟨w.heap.size, 1, none⟩ = some (.int .i64 d1) ∧ w'.cell? ⟨w.heap.size, 2, none⟩ = some (.int .i64 d2) ∧ w'.cell? ⟨w.heap.size, 3, none⟩ = some (.int .i64 d3) ∧ PutS w (d0, d1, d2, d3) w') ((refine PutS.three ?_; (focus repeat (first | (with_reducible assumption) | (with_reducible refine PutS.alloc ?_ _) | (with_reducible refine PutS.drew ?_)))))
            (first | ((refine step_put (w0 := w) (d := (d0, d1, d2, d3)) ?_ (.tmp 21) (.tmp 24) ?_ 0 k [] L1 (Value.slice (some ⟨wc.heap.size, 0, none⟩) 0 0) (Value.slice (some ⟨b, off, none⟩) k c) ?_ ?_ ?_ ?_ ?_ Htk.out hbk ?_; rfl; rfl; rfl; rfl; (focus repeat (first | (with_reducible assumption) | (with_reducible refine PutS.alloc ?_ _) | (with_reducible refine PutS.drew ?_))); (focus repeat (first | (with_reducible assumption) | ((with_reducible refine own_lit2 _ _ _ _ ?_ ?_); rfl; assumption) | ((with_reducible refine own_lit _ _ _ ?_ ?_); (first | rfl | (simp; done)); (first | omega | (simp; omega))) | (with_reducible refine World.ownsRow.drew ?_) | (with_reducible refine World.ownsRow.alloc ?_ _))); (refine HS1.out _ ?_; (focus repeat (first | (with_reducible assumption) | (with_reducible refine PutS.alloc ?_ _) | (with_reducible refine PutS.drew ?_)))); intro v1 w1 hown1 hP1 hgrow1)) | ((refine step_put (w0 := w) (d := (d0, d1, d2, d3)) ?_ (.tmp 21) (.tmp 24) ?_ 0 k [] L1 (Value.slice (some ⟨wc.heap.size + 1, 0, none⟩) 0 0) (Value.slice (some ⟨b, off, none⟩) k c) ?_ ?_ ?_ ?_ ?_ Htk.out hbk ?_; rfl; rfl; rfl; rfl; (focus repeat (first | (with_reducible assumption) | (with_reducible refine PutS.alloc ?_ _) | (with_reducible refine PutS.drew ?_))); (focus repeat (first | (with_reducible assumption) | ((with_reducible refine own_lit2 _ _ _ _ ?_ ?_); rfl; assumption) | ((with_reducible refine own_lit _ _ _ ?_ ?_); (first | rfl | (simp; done)); (first | omega | (simp; omega))) | (with_reducible refine World.ownsRow.drew ?_) | (with_reducible refine World.ownsRow.alloc ?_ _))); (refine HS1.out _ ?_; (focus repeat (first | (with_reducible assumption) | (with_reducible refine PutS.alloc ?_ _) | (with_reducible refine PutS.drew ?_)))); intro v1 w1 hown1 hP1 hgrow1)) | ((refine step_put (w0 := w) (d := (d0, d1, d2, d3)) ?_ (.tmp 25) (.tmp 27) ?_ (0 + k) 1 ([] ++ L1) [(d0, d1, d2, d3)] v1 (Value.slice (some ⟨w1.heap.size, 0, none⟩) 1 1) ?_ ?_ ?_ ?_ ?_ rfl hbk1 ?_; rfl; rfl; rfl; rfl; (focus repeat (first | (with_reducible assumption) | (with_reducible refine PutS.alloc ?_ _) | (with_reducible refine PutS.drew ?_))); (focus repeat (first | (with_reducible assumption) | ((with_reducible refine own_lit2 _ _ _ _ ?_ ?_); rfl; assumption) | ((with_reducible refine own_lit _ _ _ ?_ ?_); (first | rfl | (simp; done)); (first | omega | (simp; omega))) | (with_reducible refine World.ownsRow.drew ?_) | (with_reducible refine World.ownsRow.alloc ?_ _))); (focus repeat (first | ((with_reducible refine src_new _ d0 d1 d2 d3 _ ?_); (first | rfl | (simp; done))) | (with_reducible refine src_drew ?_) | ((with_reducible refine src_alloc ?_ ?_ _); rotate_left; (focus (first | (simp; done) | (simp; omega))); rotate_left) | ((with_reducible refine src_far ?_ hgrow1 ?_ ?_); rotate_left; (focus (first | (simp; done) | (simp; omega))); (focus (simp [Value.ownBlock])); rotate_left))); intro v2 w2 hown2 hP2 hgrow2)) | ((refine step_put (w0 := w) (d := (d0, d1, d2, d3)) ?_ (.tmp 25) (.tmp 27) ?_ (0 + k) 1 ([] ++ L1) [(d0, d1, d2, d3)] v1 (Value.slice (some ⟨wc.heap.size, 0, none⟩) 1 1) ?_ ?_ ?_ ?_ ?_ rfl hbk1 ?_; rfl; rfl; rfl; rfl; (focus repeat (first | (with_reducible assumption) | (with_reducible refine PutS.alloc ?_ _) | (with_reducible refine PutS.drew ?_))); (focus repeat (first | (with_reducible assumption) | ((with_reducible refine own_lit2 _ _ _ _ ?_ ?_); rfl; assumption) | ((with_reducible refine own_lit _ _ _ ?_ ?_); (first | rfl | (simp; done)); (first | omega | (simp; omega))) | (with_reducible refine World.ownsRow.drew ?_) | (with_reducible refine World.ownsRow.alloc ?_ _))); (focus repeat (first | ((with_reducible refine src_new _ d0 d1 d2 d3 _ ?_); (first | rfl | (simp; done))) | (with_reducible refine src_drew ?_) | ((with_reducible refine src_alloc ?_ ?_ _); rotate_left; (focus (first | (simp; done) | (simp; omega))); rotate_left) | ((with_reducible refine src_far ?_ hgrow1 ?_ ?_); rotate_left; (focus (first | (simp; done) | (simp; omega))); (focus (simp [Value.ownBlock])); rotate_left))); intro v2 w2 hown2 hP2 hgrow2)) | ((refine step_put (w0 := w) (d := (d0, d1, d2, d3)) ?_ (.tmp 25) (.tmp 27) ?_ (0 + k) 1 ([] ++ L1) [(d0, d1, d2, d3)] v1 (Value.slice (some ⟨wc.heap.size + 1, 0, none⟩) 1 1) ?_ ?_ ?_ ?_ ?_ rfl hbk1 ?_; rfl; rfl; rfl; rfl; (focus repeat (first | (with_reducible assumption) | (with_reducible refine PutS.alloc ?_ _) | (with_reducible refine PutS.drew ?_))); (focus repeat (first | (with_reducible assumption) | ((with_reducible refine own_lit2 _ _ _ _ ?_ ?_); rfl; assumption) | ((with_reducible refine own_lit _ _ _ ?_ ?_); (first | rfl | (simp; done)); (first | omega | (simp; omega))) | (with_reducible refine World.ownsRow.drew ?_) | (with_reducible refine World.ownsRow.alloc ?_ _))); (focus repeat (first | ((with_reducible refine src_new _ d0 d1 d2 d3 _ ?_); (first | rfl | (simp; done))) | (with_reducible refine src_drew ?_) | ((with_reducible refine src_alloc ?_ ?_ _); rotate_left; (focus (first | (simp; done) | (simp; omega))); rotate_left) | ((with_reducible refine src_far ?_ hgrow1 ?_ ?_); rotate_left; (focus (first | (simp; done) | (simp; omega))); (focus (simp [Value.ownBlock])); rotate_left))); intro v2 w2 hown2 hP2 hgrow2)) | ((refine step_put (w0 := w) (d := (d0, d1, d2, d3)) ?_ (.tmp 28) (.tmp 31) ?_ (0 + k + 1) (n - k) ([] ++ L1 ++ [(d0, d1, d2, d3)]) L3 v2 (Value.slice (if c = k then some ⟨b, off, none⟩ else some ⟨b, off + k * 4, none⟩) (n - k) (c - k)) ?_ ?_ ?_ ?_ ?_ Hdk.out hbk2 ?_; rfl; rfl; rfl; rfl; (focus repeat (first | (with_reducible assumption) | (with_reducible refine PutS.alloc ?_ _) | (with_reducible refine PutS.drew ?_))); (focus repeat (first | (with_reducible assumption) | ((with_reducible refine own_lit2 _ _ _ _ ?_ ?_); rfl; assumption) | ((with_reducible refine own_lit _ _ _ ?_ ?_); (first | rfl | (simp; done)); (first | omega | (simp; omega))) | (with_reducible refine World.ownsRow.drew ?_) | (with_reducible refine World.ownsRow.alloc ?_ _))); (refine HS3.out _ ?_; (focus repeat (first | (with_reducible assumption) | (with_reducible refine PutS.alloc ?_ _) | (with_reducible refine PutS.drew ?_)))); intro v3 w3 hown3 hP3 hgrow3)))
          all_goals go_wp2_with fail
          all_goals
            go_ret
            refine ⟨v3, rfl, ?_, hP3.bel⟩
            rw [HL.out, show 0 + k + 1 + (n - k) = n + 1 by omega] at hown3
            exact ownsRow_base hown3 (by omega)
end Go.Proofs.Ytaogdgbijjjpjaa
