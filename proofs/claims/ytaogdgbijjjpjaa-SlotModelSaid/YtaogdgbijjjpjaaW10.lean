/- WALKS: the heap's Push. -/
import Derived.Test.YtaogdgbijjjpjaaW9
namespace Go.Proofs.Ytaogdgbijjjpjaa
open Go.RowKit
set_option linter.unusedVariables false

def pushL (l : List Q) (room : Nat) (r : Int) (k : Q) : Int × List Q := if 0 ≤ r then (7, l) else if l.length = room then (3, l) else (0, upL ltK (l ++ [k]) l.length)

/-- The row has grown. -/
theorem HA.grow {B : Nat} {w w6 : World} {p : Nat} {F : Nat → Prop} {l : List Q} {room : Nat} (h : HA 23 B w p F l room) {a : Option Addr} {c : Nat} (hc : w.cell? ⟨p, 0, none⟩ = some (.slice a l.length c))
    {W : World} (hW : Fr (fun _ => False) w W) {gg cap : Nat} {k : Q} (hown : w6.ownsRow B 23 4 (.slice (some ⟨gg, 0, none⟩) (l.length + 1) cap) (l.length + 1) (l.flatMap qc ++ qc k)) (hg : W.grownBy w6 (Value.slice a l.length c).ownBlock)
    (hat : (Value.slice a l.length c).ownBlock = some gg ∨ gg = w.heap.size + 1) (hlt : gg < w6.heap.size) :
    HA 23 B (w6.setCell ⟨p, 0, none⟩ (.slice (some ⟨gg, 0, none⟩) (l.length + 1) cap)) p (fun j => F j ∨ gg = j) (l ++ [k]) room ∧ Fr F w (w6.setCell ⟨p, 0, none⟩ (.slice (some ⟨gg, 0, none⟩) (l.length + 1) cap)) ∧
      (∀ j, (F j ∨ gg = j) → F j ∨ w.heap.size ≤ j) ∧ (w6.setCell ⟨p, 0, none⟩ (.slice (some ⟨gg, 0, none⟩) (l.length + 1) cap)).cell? ⟨p, 0, none⟩ = some (.slice (some ⟨gg, 0, none⟩) (l.length + 1) cap) := by
  obtain ⟨a', c', h1, h2, h3⟩ := h.row
  rw [hc] at h1
  simp only [Option.some.injEq, Value.slice.injEq, true_and] at h1
  obtain ⟨rfl, rfl⟩ := h1
  have hnp : (Value.slice a l.length c).ownBlock ≠ some p := fun e => (h3 p e).2 rfl
  have hgp : gg ≠ p := by
    intro e
    rcases hat with hat | hat
    · exact hnp (by rw [hat, e])
    · have := h.p1; omega
  have G := grown_keep (w := w) (p := p) hg hW h.p1 hnp
  have f6 : Fr F w w6 := Fr.grown (hW.mono (fun _ _ h => h.elim)) hg (fun g hg' _ => (h3 g hg').1)
  refine ⟨⟨?_, .inl h.fp, ?_, ?_, ?_, some ⟨gg, 0, none⟩, cap, ?_, ?_, ?_⟩, f6.setCell (p := ⟨p, 0, none⟩) h.fp _, ?_, World.cell?_setCell_same _ _ _ ((G 0).1.trans hc)⟩
  · simpa [World.setCell] using Nat.lt_of_lt_of_le h.p1 f6.size
  · intro j hj
    rcases hj with hj | rfl
    · have := h.flt j hj
      exact ⟨by simpa [World.setCell] using Nat.lt_of_lt_of_le this.1 f6.size, this.2⟩
    · exact ⟨by simpa [World.setCell] using hlt, ownsRow_block hown gg rfl⟩
  · rw [World.cell?_setCell_other _ _ _ _ (addr_ne (by omega)), (G 1).1]; exact h.room
  · intro o; rw [World.frozen?_setCell, (G o).2]; exact h.fz o
  · rw [List.length_append]; exact World.cell?_setCell_same _ _ _ ((G 0).1.trans hc)
  · have hlen : (l ++ [k]).length = l.length + 1 := by simp
    rw [hlen, List.flatMap_append]
    refine ownsRow_keep (by simpa using hown) fun j hj => Below.heap_setCell _ _ _ _ (fun e => hgp ?_)
    simp only [Value.ownBlock, Option.some.injEq] at hj
    rw [hj]; exact e
  · intro g hg'
    simp only [Value.ownBlock, Option.some.injEq] at hg'
    exact ⟨.inr hg', by rw [← hg']; exact hgp⟩
  · intro j hj
    rcases hj with hj | rfl
    · exact .inl hj
    · rcases hat with hat | hat
      · exact .inl (h3 gg hat).1
      · right; omega

set_option maxHeartbeats 4000000 in
set_option maxRecDepth 100000 in
theorem push_any {B : Nat} {w : World} {p : Nat} {F : Nat → Prop} {l : List Q} {room : Nat} (h : HA 23 B w p F l room) (hB : B ≤ w.heap.size) (k : Q) (hll : l.length ≤ 2048) :
    Calls Try.prog 18 #[.pointer (some ⟨p, 0, none⟩), qv k] w fun e w' => ∃ r : Int, Idx (fun x => x.2.2.2 == k.2.2.2) l r ∧ e = .returned (.int .i64 (pushL l room r k).1) ∧
      ∃ F', HA 23 B w' p F' (pushL l room r k).2 room ∧ (∀ j, F' j → F j ∨ w.heap.size ≤ j) ∧ Fr F w w' := by
  obtain ⟨k0, k1, k2, k3⟩ := k
  have hfa : Below w.heap.size w (w.alloc (.cells #[.int .i64 k0, .int .i64 k1, .int .i64 k2, .int .i64 k3] 23)) := (Below.refl _ _).alloc (Nat.le_refl _) _
  have h1 := h.below hfa
  have P := Lib.hid (place_any h1 k3)
  have b0 := cell_newb w #[.int .i64 k0, .int .i64 k1, .int .i64 k2, .int .i64 k3] 23 _ 0 _ rfl rfl
  have b1 := cell_newb w #[.int .i64 k0, .int .i64 k1, .int .i64 k2, .int .i64 k3] 23 _ 1 _ rfl rfl
  have b2 := cell_newb w #[.int .i64 k0, .int .i64 k1, .int .i64 k2, .int .i64 k3] 23 _ 2 _ rfl rfl
  have b3 := cell_newb w #[.int .i64 k0, .int .i64 k1, .int .i64 k2, .int .i64 k3] 23 _ 3 _ rfl rfl
  have hk1 : w.heap.size < (w.alloc (.cells #[.int .i64 k0, .int .i64 k1, .int .i64 k2, .int .i64 k3] 23)).heap.size := by simp
  have Hfa := Lib.hid hfa
  have H1 := Lib.hid h1
  unfold qv
  simp only
  clear h h1 hfa
  go_enter Try.func18, Try.ntmps18
  go_wp2_with fail
  generalize hw1 : w.alloc (.cells #[.int .i64 k0, .int .i64 k1, .int .i64 k2, .int .i64 k3] 23) = w1 at *
  have Hw1 := Lib.hid hw1
  clear hw1
  generalize hkb : w.heap.size = kb at *
  have Hkb := Lib.hid hkb
  clear hkb
  refine P.out.mono ?_
  rintro e w2 ⟨⟨r, rfl, hr⟩, hb⟩
  have Hr := Lib.hid hr; clear hr
  have h2 := H1.out.below hb
  have hf2 : Fr F w w2 := ((Fr.of_below (S := F) (by rw [Hkb.out]; exact Hfa.out)).trans (U := F) (Fr.of_below (S := F) hb) (fun _ _ h => h) (fun _ _ h => h))
  have d0 := (hb.cell (p := ⟨kb, 0, none⟩) hk1).trans b0
  have d1 := (hb.cell (p := ⟨kb, 1, none⟩) hk1).trans b1
  have d2 := (hb.cell (p := ⟨kb, 2, none⟩) hk1).trans b2
  have d3 := (hb.cell (p := ⟨kb, 3, none⟩) hk1).trans b3
  clear b0 b1 b2 b3 P
  have hk2 : kb < w2.heap.size := by have := hb.size; omega
  by_cases h0 : 0 ≤ r
  · have E : Hid (pushL l room r (k0, k1, k2, k3) = (7, l)) := by show _ = _; unfold pushL; rw [if_pos h0]
    have HH2 := Lib.hid h2
    clear h2 hb
    go_wp2_with fail
    go_ret
    exact ⟨r, Hr.out, by rw [E.out]; rfl, F, by rw [E.out]; exact HH2.out, fun j hj => .inl hj, hf2⟩
  · have h0' : r < 0 := by omega
    obtain ⟨a, c, hc, ho, hbk⟩ := h2.row
    have hrm := h2.room
    by_cases hfull : l.length = room
    · have E : Hid (pushL l room r (k0, k1, k2, k3) = (3, l)) := by show _ = _; unfold pushL; rw [if_neg h0, if_pos hfull]
      have hfb : ((l.length : Int) == (room : Int)) = true := by simp; omega
      have HH2 := Lib.hid h2
      have Hf2 := Lib.hid hf2
      clear h0 hfull h2 hb ho hbk hf2
      go_wp2_with fail
      go_quiet (fail)
      go_wp2_with fail
      go_ret
      exact ⟨r, Hr.out, by rw [E.out]; rfl, F, by rw [E.out]; exact HH2.out.drewN _, fun j hj => .inl hj, Hf2.out.drewN _⟩
    · have E : Hid (pushL l room r (k0, k1, k2, k3) = (0, upL ltK (l ++ [(k0, k1, k2, k3)]) l.length)) := by show _ = _; unfold pushL; rw [if_neg h0, if_neg hfull]
      have hfb : ((l.length : Int) == (room : Int)) = false := by simp; omega
      have HH2 := Lib.hid h2
      have Hf2 := Lib.hid hf2
      have Hbk := Lib.hid hbk
      have hBw : B ≤ w2.heap.size := by have := hf2.size; have := Hkb.out; omega
      have hp2 := h2.p1
      have fv := h2.fz 0
      have ho' := Lib.hid ho
      clear h0 hfull hb hbk hf2 h2 ho
      go_wp2_with fail
      go_quiet (fail)
      go_wp2_with fail
      generalize hw5 : World.drewN w2 _ = w5
      have hH5 : HA 23 B w5 p F l room := by rw [← hw5]; exact HH2.out.drewN _
      have hf5 : Fr F w w5 := by rw [← hw5]; exact Hf2.out.drewN _
      have cv : w5.cell? ⟨p, 0, none⟩ = some (.slice a l.length c) := by rw [← hw5]; exact hc
      have hown : w5.ownsRow B 23 4 (.slice a l.length c) l.length (l.flatMap qc) := by rw [← hw5]; exact ho'.out
      have fv5 : w5.frozen? ⟨p, 0, none⟩ = false := hH5.fz 0
      have e0 : w5.cell? ⟨kb, 0, none⟩ = some (.int .i64 k0) := by rw [← hw5]; exact d0
      have e1 : w5.cell? ⟨kb, 1, none⟩ = some (.int .i64 k1) := by rw [← hw5]; exact d1
      have e2 : w5.cell? ⟨kb, 2, none⟩ = some (.int .i64 k2) := by rw [← hw5]; exact d2
      have e3 : w5.cell? ⟨kb, 3, none⟩ = some (.int .i64 k3) := by rw [← hw5]; exact d3
      have hp5 := hH5.p1
      have hBw5 : B ≤ w5.heap.size := by rw [← hw5]; exact hBw
      have hnp : (Value.slice a l.length c).ownBlock ≠ some p := fun e => (Hbk.out p e).2 rfl
      have Hsz : Hid (w.heap.size ≤ w5.heap.size) := hf5.size
      have HH5 := Lib.hid hH5
      have Hf5 := Lib.hid hf5
      have HCV := Lib.hid cv
      have hck : ∀ (n : Nat) (o : Obj), ((w5.drewN n).alloc o).cell? ⟨p, 0, none⟩ = some (.slice a l.length c) := fun n o => by rw [Fr.cell (S := fun _ => False) (w := w5) (w' := (w5.drewN n).alloc o) (p := ⟨p, 0, none⟩) (((Fr.refl _ w5).drewN _).alloc _) hp5 (by simp)]; exact cv
      have hfk : ∀ (n : Nat) (o : Obj), ((w5.drewN n).alloc o).frozen? ⟨p, 0, none⟩ = false := fun n o => by rw [Fr.frozen (S := fun _ => False) (w := w5) (w' := (w5.drewN n).alloc o) (p := ⟨p, 0, none⟩) (((Fr.refl _ w5).drewN _).alloc _) hp5 (by simp)]; exact fv5
      obtain ⟨i0, ki, kz0, kz1, kz2⟩ := info_parts Try.info23
      clear hw5 hH5 hf5 d0 d1 d2 d3 hrm fv hc hBw hp2
      go_region_law (first | (refine step_append_lies _ (by rfl) _ _ _ (by rfl) B 23 i0 _ 4 32 Try.underlying27 ki kz0 kz1 kz2 rfl (by omega) _ _ _ (by rfl) ((hown.alloc _).drew) ⟨w5.heap.size, 0, none⟩ 1 1 (qc (k0, k1, k2, k3)) (by rfl) (by rfl) (World.news_of_block (cs := #[.int .i64 k0, .int .i64 k1, .int .i64 k2, .int .i64 k3]) (t := 23) (fr := (0, 0)) (heap_alloc_new w5 _)) (by simp [qc, Value.oneCell']) (by omega) (by unfold maxLen; omega) (by omega) (by simp; omega) (w5.heap.size + 1) (by simp) ?_; intro gg cap2 w6 hown6 hgrow hat hlt; have G6 := grown_keep (w := w5) (p := p) hgrow (by repeat (first | exact Fr.refl _ _ | refine Fr.alloc ?_ _ | refine Fr.drew ?_ | refine Fr.drewN ?_ _)) hp5 hnp 0; have cv6 := G6.1.trans cv; have fv6 := G6.2.trans fv5; clear G6))
      all_goals
        obtain ⟨hG, hGf, hGF, c7⟩ := HH5.out.grow HCV.out (by repeat (first | exact Fr.refl _ _ | refine Fr.alloc ?_ _ | refine Fr.drew ?_ | refine Fr.drewN ?_ _)) hown6 hgrow hat hlt
        have HG := Lib.hid hG
        have HGf := Lib.hid hGf
        have HGF := Lib.hid hGF
        generalize w6.setCell ⟨p, 0, none⟩ (.slice (some ⟨gg, 0, none⟩) (l.length + 1) cap2) = w7 at *
        clear hGF cv6 fv6 hck hfk cv fv5 e0 e1 e2 e3 hgrow hown6
        have hU := Lib.hid (up_any HG.out l.length (by simp))
        go_wp2_with fail
        refine hU.out.mono ?_
        rintro e w8 ⟨rfl, h8, hf8⟩
        go_wp2_with fail
        go_ret
        exact ⟨r, Hr.out, by rw [E.out]; rfl, _, by rw [E.out]; exact h8, fun j hj => (HGF.out j hj).imp id (fun h => by have := Hsz.out; omega), (Hf5.out.trans (U := F) HGf.out (fun _ _ h => h) (fun _ _ h => h)).trans (U := F) hf8 (fun _ _ h => h) (fun j hj h => (HGF.out j h).elim id (fun h => by have := Hsz.out; omega))⟩
end Go.Proofs.Ytaogdgbijjjpjaa
