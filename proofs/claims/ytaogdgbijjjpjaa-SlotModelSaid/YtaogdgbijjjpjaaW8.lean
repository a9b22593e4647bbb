/- WALKS: the heap's Remove, Pop, Change, Push. -/
import Derived.Test.YtaogdgbijjjpjaaW7
namespace Go.Proofs.Ytaogdgbijjjpjaa
open Go.RowKit
set_option linter.unusedVariables false

/-- What Remove, Change come to, by the place that was found. -/
def remL (l : List Q) (r : Int) : List Q := if 0 ≤ r then outL ltK l r.toNat else l
def chgL (l : List Q) (r : Int) (k : Q) : List Q := if 0 ≤ r then upL ltK (downL ltK (l.set r.toNat k) r.toNat) r.toNat else l

set_option maxHeartbeats 1000000 in
theorem remove_any {B : Nat} {w : World} {p : Nat} {F : Nat → Prop} {l : List Q} {room : Nat} (h : HA 23 B w p F l room) (id : Int) (hll : l.length ≤ 4096) :
    Calls Try.prog 23 #[.pointer (some ⟨p, 0, none⟩), .int .i64 id] w fun e w' => ∃ r : Int, Idx (fun x => x.2.2.2 == id) l r ∧ e = .returned (.bool (decide (0 ≤ r))) ∧ HA 23 B w' p F (remL l r) room ∧ Fr F w w' := by
  have P := Lib.hid (place_any h id)
  have HH := Lib.hid h
  clear h
  go_enter Try.func23, Try.ntmps23
  go_wp2_with fail
  refine P.out.mono ?_
  rintro e w2 ⟨⟨r, rfl, hr⟩, hb⟩
  have Hr := Lib.hid hr; clear hr
  have h2 := HH.out.below hb
  have hf2 : Fr F w w2 := Fr.of_below hb
  by_cases h0 : 0 ≤ r
  · obtain ⟨q, hq, rfl⟩ : ∃ q : Nat, q < l.length ∧ r = (q : Int) := by
      rcases Hr.out with ⟨h, _⟩ | ⟨q, hq, h, _⟩
      · omega
      · exact ⟨q, hq, h⟩
    have hO := Lib.hid (out_any h2 q hq hll)
    have E : Hid (remL l (q : Int) = outL ltK l q) := by show _ = _; unfold remL; rw [if_pos h0]; simp
    have D : Hid (decide (0 ≤ (q : Int)) = true) := by show _ = _; simp
    have Hf2 := Lib.hid hf2
    clear h2 hb hf2
    go_wp2_with fail
    refine hO.out.mono ?_
    rintro e w3 ⟨rfl, h3, hf3⟩
    go_wp2_with fail
    go_ret
    exact ⟨(q : Int), Hr.out, by rw [D.out]; rfl, by rw [E.out]; exact h3, Hf2.out.trans hf3 (fun _ _ h => h) (fun _ _ h => h)⟩
  · have h0' : r < 0 := by omega
    have E : Hid (remL l r = l) := by show _ = _; unfold remL; rw [if_neg h0]
    have D : Hid (decide (0 ≤ r) = false) := by show _ = _; simp; omega
    clear h0
    have HH2 := Lib.hid h2
    clear h2 hb
    go_wp2_with fail
    go_ret
    exact ⟨r, Hr.out, by rw [D.out]; rfl, by rw [E.out]; exact HH2.out, hf2⟩

/-- Four cells that were there hold what was laid. -/
theorem set4_read {W : World} {b : Nat} {u0 u1 u2 u3 : Value} (h0 : W.cell? ⟨b, 0, none⟩ = some u0) (h1 : W.cell? ⟨b, 1, none⟩ = some u1) (h2 : W.cell? ⟨b, 2, none⟩ = some u2) (h3 : W.cell? ⟨b, 3, none⟩ = some u3) (x0 x1 x2 x3 : Int) :
    Q4 ((((W.setCell ⟨b, 0, none⟩ (.int .i64 x0)).setCell ⟨b, 1, none⟩ (.int .i64 x1)).setCell ⟨b, 2, none⟩ (.int .i64 x2)).setCell ⟨b, 3, none⟩ (.int .i64 x3)) b 0 (x0, x1, x2, x3) := by
  refine ⟨?_, ?_, ?_, ?_⟩
  · rw [World.cell?_setCell_other _ _ _ _ (addr_ne (by omega)), World.cell?_setCell_other _ _ _ _ (addr_ne (by omega)), World.cell?_setCell_other _ _ _ _ (addr_ne (by omega))]
    exact World.cell?_setCell_same _ _ _ h0
  · show World.cell? _ ⟨b, 1, none⟩ = _
    rw [World.cell?_setCell_other _ _ _ _ (addr_ne (by omega)), World.cell?_setCell_other _ _ _ _ (addr_ne (by omega))]
    refine World.cell?_setCell_same _ _ _ (u := u1) ?_
    rw [World.cell?_setCell_other _ _ _ _ (addr_ne (by omega))]; exact h1
  · show World.cell? _ ⟨b, 2, none⟩ = _
    rw [World.cell?_setCell_other _ _ _ _ (addr_ne (by omega))]
    refine World.cell?_setCell_same _ _ _ (u := u2) ?_
    rw [World.cell?_setCell_other _ _ _ _ (addr_ne (by omega)), World.cell?_setCell_other _ _ _ _ (addr_ne (by omega))]; exact h2
  · show World.cell? _ ⟨b, 3, none⟩ = _
    refine World.cell?_setCell_same _ _ _ (u := u3) ?_
    rw [World.cell?_setCell_other _ _ _ _ (addr_ne (by omega)), World.cell?_setCell_other _ _ _ _ (addr_ne (by omega)), World.cell?_setCell_other _ _ _ _ (addr_ne (by omega))]; exact h3

def popL (l : List Q) : Q × Bool × List Q := match l with | [] => ((0, 0, 0, 0), false, []) | x :: l => (x, true, outL ltK (x :: l) 0)

set_option maxHeartbeats 2000000 in
theorem pop_any {B : Nat} {w : World} {p : Nat} {F : Nat → Prop} {l : List Q} {room : Nat} (h : HA 23 B w p F l room) (hll : l.length ≤ 4096) :
    Calls Try.prog 26 #[.pointer (some ⟨p, 0, none⟩)] w fun e w' => e = .returned (.tuple #[qv (popL l).1, .bool (popL l).2.1]) ∧ HA 23 B w' p F (popL l).2.2 room ∧ Fr F w w' := by
  have hb1 : ∀ o, Below w.heap.size w (w.alloc o) := fun o => (Below.refl _ _).alloc (Nat.le_refl _) _
  have P := Lib.hid (fun o => peek_any (h.below (hb1 o)))
  have HH := Lib.hid (fun W (hb : Below w.heap.size w W) => h.below hb)
  have hflt : ∀ k, F k → k < w.heap.size := fun k hk => (h.flt k hk).1
  have Hflt := Lib.hid hflt
  clear h hb1 hflt
  cases l with
  | nil =>
    unfold peekL qv at P
    unfold popL qv
    simp only at P ⊢
    go_enter Try.func26, Try.ntmps26
    go_wp2_with fail
    refine (P.out _).mono ?_
    rintro e w2 ⟨rfl, hb2⟩
    have hb3 : Below w.heap.size w w2 := ((Below.refl w.heap.size w).alloc (Nat.le_refl _) _).trans (hb2.mono (by simp))
    have z0 : w2.cell? ⟨w.heap.size, 0, none⟩ = some (.int .i64 0) := (hb2.cell (p := ⟨w.heap.size, 0, none⟩) (by simp)).trans (cell_newb _ _ _ _ 0 _ rfl rfl)
    have z1 : w2.cell? ⟨w.heap.size, 1, none⟩ = some (.int .i64 0) := (hb2.cell (p := ⟨w.heap.size, 1, none⟩) (by simp)).trans (cell_newb _ _ _ _ 1 _ rfl rfl)
    have z2 : w2.cell? ⟨w.heap.size, 2, none⟩ = some (.int .i64 0) := (hb2.cell (p := ⟨w.heap.size, 2, none⟩) (by simp)).trans (cell_newb _ _ _ _ 2 _ rfl rfl)
    have z3 : w2.cell? ⟨w.heap.size, 3, none⟩ = some (.int .i64 0) := (hb2.cell (p := ⟨w.heap.size, 3, none⟩) (by simp)).trans (cell_newb _ _ _ _ 3 _ rfl rfl)
    have f0 : ∀ o, w2.frozen? ⟨w.heap.size, o, none⟩ = false := fun o => (hb2.frozen (p := ⟨w.heap.size, o, none⟩) (by simp)).trans (by simp)
    have g0 := f0 0
    have g1 := f0 1
    have g2 := f0 2
    have g3 := f0 3
    have hz : w.heap.size < w2.heap.size := by have := hb2.size; simp at this; omega
    have hbF : Fr (fun _ => False) w w2 := Fr.of_below hb3
    have HH2 := Lib.hid (HH.out _ hb3)
    have HbF := Lib.hid hbF
    clear hb2 hb3 f0 hbF P HH
    generalize hrb : w.heap.size = rb at *
    have Hrb := Lib.hid hrb
    clear hrb
    go_wp2_with fail
    go_wp2_with fail
    generalize hW5 : World.alloc (World.setCell _ _ _) _ = W5
    have hQ : Q4 W5 rb 0 (0, 0, 0, 0) := by rw [← hW5]; exact (set4_read z0 z1 z2 z3 0 0 0 0).below ((Below.refl _ _).alloc (Nat.le_refl _) _)
    have hF : Fr (· = rb) w2 W5 := by rw [← hW5]; exact (((((Fr.refl (· = rb) w2).setCell (p := ⟨rb, 0, none⟩) rfl _).setCell (p := ⟨rb, 1, none⟩) rfl _).setCell (p := ⟨rb, 2, none⟩) rfl _).setCell (p := ⟨rb, 3, none⟩) rfl _).alloc _
    obtain ⟨q0, q1, q2, q3⟩ := hQ
    simp only [Nat.zero_add] at q0 q1 q2 q3
    refine bodyPost_ret (v := .tuple #[.agg #[.int .i64 0, .int .i64 0, .int .i64 0, .int .i64 0], .bool false]) (by simp [results, Try.results26, go_sem, q0, q1, q2, q3]) rfl ⟨rfl, HH2.out.keep hF (fun k hk e => by have := Hflt.out k hk; omega), ?_⟩
    exact HbF.out.trans hF (fun _ _ h => h.elim) (fun k hk e => by have := Hrb.out; omega)
  | cons x l =>
    obtain ⟨x0, x1, x2, x3⟩ := x
    unfold peekL qv at P
    unfold popL qv
    simp only at P ⊢
    go_enter Try.func26, Try.ntmps26
    go_wp2_with fail
    refine (P.out _).mono ?_
    rintro e w2 ⟨rfl, hb2⟩
    have hb3 : Below w.heap.size w w2 := ((Below.refl w.heap.size w).alloc (Nat.le_refl _) _).trans (hb2.mono (by simp))
    have z0 : w2.cell? ⟨w.heap.size, 0, none⟩ = some (.int .i64 0) := (hb2.cell (p := ⟨w.heap.size, 0, none⟩) (by simp)).trans (cell_newb _ _ _ _ 0 _ rfl rfl)
    have z1 : w2.cell? ⟨w.heap.size, 1, none⟩ = some (.int .i64 0) := (hb2.cell (p := ⟨w.heap.size, 1, none⟩) (by simp)).trans (cell_newb _ _ _ _ 1 _ rfl rfl)
    have z2 : w2.cell? ⟨w.heap.size, 2, none⟩ = some (.int .i64 0) := (hb2.cell (p := ⟨w.heap.size, 2, none⟩) (by simp)).trans (cell_newb _ _ _ _ 2 _ rfl rfl)
    have z3 : w2.cell? ⟨w.heap.size, 3, none⟩ = some (.int .i64 0) := (hb2.cell (p := ⟨w.heap.size, 3, none⟩) (by simp)).trans (cell_newb _ _ _ _ 3 _ rfl rfl)
    have f0 : ∀ o, w2.frozen? ⟨w.heap.size, o, none⟩ = false := fun o => (hb2.frozen (p := ⟨w.heap.size, o, none⟩) (by simp)).trans (by simp)
    have g0 := f0 0
    have g1 := f0 1
    have g2 := f0 2
    have g3 := f0 3
    have hz : w.heap.size < w2.heap.size := by have := hb2.size; simp at this; omega
    have hbF : Fr (fun _ => False) w w2 := Fr.of_below hb3
    have hbF : Fr (fun _ => False) w w2 := Fr.of_below hb3
    have h3 := (HH.out _ hb3).below ((Below.refl _ _).alloc (Nat.le_refl _) (.cells #[.int .i64 x0, .int .i64 x1, .int .i64 x2, .int .i64 x3] 23))
    have hO := Lib.hid (out_any h3 0 (by simp) hll)
    have HbF := Lib.hid hbF
    have hzF : ¬ F w.heap.size := fun hk => by have := Hflt.out _ hk; omega
    have kF : ¬ F w2.heap.size := fun hk => by have := Hflt.out _ hk; omega
    have hfa : Fr (fun _ => False) w2 (w2.alloc (.cells #[.int .i64 x0, .int .i64 x1, .int .i64 x2, .int .i64 x3] 23)) := (Fr.refl _ _).alloc _
    have y0 : (w2.alloc (.cells #[.int .i64 x0, .int .i64 x1, .int .i64 x2, .int .i64 x3] 23)).cell? ⟨w.heap.size, 0, none⟩ = some (.int .i64 0) := (hfa.cell (p := ⟨w.heap.size, 0, none⟩) hz (by simp)).trans z0
    have y1 : (w2.alloc (.cells #[.int .i64 x0, .int .i64 x1, .int .i64 x2, .int .i64 x3] 23)).cell? ⟨w.heap.size, 1, none⟩ = some (.int .i64 0) := (hfa.cell (p := ⟨w.heap.size, 1, none⟩) hz (by simp)).trans z1
    have y2 : (w2.alloc (.cells #[.int .i64 x0, .int .i64 x1, .int .i64 x2, .int .i64 x3] 23)).cell? ⟨w.heap.size, 2, none⟩ = some (.int .i64 0) := (hfa.cell (p := ⟨w.heap.size, 2, none⟩) hz (by simp)).trans z2
    have y3 : (w2.alloc (.cells #[.int .i64 x0, .int .i64 x1, .int .i64 x2, .int .i64 x3] 23)).cell? ⟨w.heap.size, 3, none⟩ = some (.int .i64 0) := (hfa.cell (p := ⟨w.heap.size, 3, none⟩) hz (by simp)).trans z3
    have yf : ∀ o, (w2.alloc (.cells #[.int .i64 x0, .int .i64 x1, .int .i64 x2, .int .i64 x3] 23)).frozen? ⟨w.heap.size, o, none⟩ = false := fun o => (hfa.frozen (p := ⟨w.heap.size, o, none⟩) hz (by simp)).trans (f0 o)
    have b0 := cell_newb w2 #[.int .i64 x0, .int .i64 x1, .int .i64 x2, .int .i64 x3] 23 _ 0 _ rfl rfl
    have b1 := cell_newb w2 #[.int .i64 x0, .int .i64 x1, .int .i64 x2, .int .i64 x3] 23 _ 1 _ rfl rfl
    have b2 := cell_newb w2 #[.int .i64 x0, .int .i64 x1, .int .i64 x2, .int .i64 x3] 23 _ 2 _ rfl rfl
    have b3 := cell_newb w2 #[.int .i64 x0, .int .i64 x1, .int .i64 x2, .int .i64 x3] 23 _ 3 _ rfl rfl
    have hk3 : w2.heap.size < (w2.alloc (.cells #[.int .i64 x0, .int .i64 x1, .int .i64 x2, .int .i64 x3] 23)).heap.size := by simp
    have HW : Hid (∀ k, k < w.heap.size → k < w2.heap.size) := fun k hk => by omega
    have Hfa := Lib.hid hfa
    clear hb2 hb3 f0 hbF P HH h3 z0 z1 z2 z3 g0 g1 g2 g3 hfa
    go_wp2_with fail
    generalize hw3 : w2.alloc (.cells #[.int .i64 x0, .int .i64 x1, .int .i64 x2, .int .i64 x3] 23) = w3 at *
    have Hw3 := Lib.hid hw3
    clear hw3
    generalize hkb : w2.heap.size = kb at *
    have Hkb := Lib.hid hkb
    clear hkb
    generalize hrb : w.heap.size = rb at *
    have Hrb := Lib.hid hrb
    clear hrb
    refine hO.out.mono ?_
    rintro e w4 ⟨rfl, h4, hf4⟩
    have c0 := (hf4.cell (p := ⟨rb, 0, none⟩) (by show rb < _; omega) hzF).trans y0
    have c1 := (hf4.cell (p := ⟨rb, 1, none⟩) (by show rb < _; omega) hzF).trans y1
    have c2 := (hf4.cell (p := ⟨rb, 2, none⟩) (by show rb < _; omega) hzF).trans y2
    have c3 := (hf4.cell (p := ⟨rb, 3, none⟩) (by show rb < _; omega) hzF).trans y3
    have d0 := (hf4.cell (p := ⟨kb, 0, none⟩) hk3 kF).trans b0
    have d1 := (hf4.cell (p := ⟨kb, 1, none⟩) hk3 kF).trans b1
    have d2 := (hf4.cell (p := ⟨kb, 2, none⟩) hk3 kF).trans b2
    have d3 := (hf4.cell (p := ⟨kb, 3, none⟩) hk3 kF).trans b3
    have g0 := (hf4.frozen (p := ⟨rb, 0, none⟩) (by show rb < _; omega) hzF).trans (yf 0)
    have g1 := (hf4.frozen (p := ⟨rb, 1, none⟩) (by show rb < _; omega) hzF).trans (yf 1)
    have g2 := (hf4.frozen (p := ⟨rb, 2, none⟩) (by show rb < _; omega) hzF).trans (yf 2)
    have g3 := (hf4.frozen (p := ⟨rb, 3, none⟩) (by show rb < _; omega) hzF).trans (yf 3)
    have Hf4 := Lib.hid hf4
    have H4 := Lib.hid h4
    clear hf4 h4 yf hO y0 y1 y2 y3 b0 b1 b2 b3
    go_wp2_with fail
    generalize hW5 : World.setCell (World.setCell _ _ _) _ _ = W5
    have hQ : Q4 W5 rb 0 (x0, x1, x2, x3) := by rw [← hW5]; exact set4_read c0 c1 c2 c3 x0 x1 x2 x3
    have hF : Fr (· = rb) w4 W5 := by rw [← hW5]; exact ((((Fr.refl (· = rb) w4).setCell (p := ⟨rb, 0, none⟩) rfl _).setCell (p := ⟨rb, 1, none⟩) rfl _).setCell (p := ⟨rb, 2, none⟩) rfl _).setCell (p := ⟨rb, 3, none⟩) rfl _
    obtain ⟨q0, q1, q2, q3⟩ := hQ
    simp only [Nat.zero_add] at q0 q1 q2 q3
    refine bodyPost_ret (v := .tuple #[.agg #[.int .i64 x0, .int .i64 x1, .int .i64 x2, .int .i64 x3], .bool true]) (by simp [results, Try.results26, go_sem, q0, q1, q2, q3]) rfl ⟨rfl, H4.out.keep hF (fun k hk e => hzF (by subst e; exact hk)), ?_⟩
    refine ((HbF.out.trans (U := fun _ => False) Hfa.out (fun _ _ h => h.elim) (fun _ _ h => h.elim)).trans (U := F) Hf4.out (fun _ _ h => h.elim) (fun _ _ h => h)).trans (U := F) hF (fun _ _ h => h) (fun k hk e => ?_)
    have := Hrb.out; omega
end Go.Proofs.Ytaogdgbijjjpjaa
