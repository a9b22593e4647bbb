/- SLOTS: Reserve. -/
import Derived.Test.YtaogdgbijjjpjaaLat
import Derived.Test.YtaogdgbijjjpjaaSL3
namespace Go.Proofs.Ytaogdgbijjjpjaa
open Go.RowKit
set_option linter.unusedVariables false

/-- The row has grown. -/
theorem HA.growE {e : TypeId} {B : Nat} {w w6 : World} {p : Nat} {F : Nat → Prop} {l : List Q} {room : Nat} (h : HA e B w p F l room) {a : Option Addr} {c : Nat} (hc : w.cell? ⟨p, 0, none⟩ = some (.slice a l.length c))
    {W : World} (hW : Fr (fun _ => False) w W) {gg cap : Nat} {k : Q} (hown : w6.ownsRow B e 4 (.slice (some ⟨gg, 0, none⟩) (l.length + 1) cap) (l.length + 1) (l.flatMap qc ++ qc k)) (hg : W.grownBy w6 (Value.slice a l.length c).ownBlock)
    (hat : (Value.slice a l.length c).ownBlock = some gg ∨ gg = w.heap.size + 1) (hlt : gg < w6.heap.size) :
    HA e B (w6.setCell ⟨p, 0, none⟩ (.slice (some ⟨gg, 0, none⟩) (l.length + 1) cap)) p (fun j => F j ∨ gg = j) (l ++ [k]) room ∧ Fr F w (w6.setCell ⟨p, 0, none⟩ (.slice (some ⟨gg, 0, none⟩) (l.length + 1) cap)) ∧
      (∀ j, (F j ∨ gg = j) → F j ∨ w.heap.size ≤ j) ∧ (w6.setCell ⟨p, 0, none⟩ (.slice (some ⟨gg, 0, none⟩) (l.length + 1) cap)).cell? ⟨p, 0, none⟩ = some (.slice (some ⟨gg, 0, none⟩) (l.length + 1) cap) := by
  obtain ⟨a', c', h1, h2, h3⟩ := h.row
  rw [hc] at h1
  simp only [Option.some.injEq, Value.slice.injEq, true_and] at h1
  obtain ⟨rfl, rfl⟩ := h1
  have hnp : (Value.slice a l.length c).ownBlock ≠ some p := fun e => (h3 p e).2 rfl
  have hgp : gg ≠ p := by
    intro e
    rcases hat with hat | hat
    · exact hnp (by rw [hat, e])
    · have := h.p1; omega
  have G := grown_keep (w := w) (p := p) hg hW h.p1 hnp
  have f6 : Fr F w w6 := Fr.grown (hW.mono (fun _ _ h => h.elim)) hg (fun g hg' _ => (h3 g hg').1)
  refine ⟨⟨?_, .inl h.fp, ?_, ?_, ?_, some ⟨gg, 0, none⟩, cap, ?_, ?_, ?_⟩, f6.setCell (p := ⟨p, 0, none⟩) h.fp _, ?_, World.cell?_setCell_same _ _ _ ((G 0).1.trans hc)⟩
  · simpa [World.setCell] using Nat.lt_of_lt_of_le h.p1 f6.size
  · intro j hj
    rcases hj with hj | rfl
    · have := h.flt j hj
      exact ⟨by simpa [World.setCell] using Nat.lt_of_lt_of_le this.1 f6.size, this.2⟩
    · exact ⟨by simpa [World.setCell] using hlt, ownsRow_block hown gg rfl⟩
  · rw [World.cell?_setCell_other _ _ _ _ (addr_ne (by omega)), (G 1).1]; exact h.room
  · intro o; rw [World.frozen?_setCell, (G o).2]; exact h.fz o
  · rw [List.length_append]; exact World.cell?_setCell_same _ _ _ ((G 0).1.trans hc)
  · have hlen : (l ++ [k]).length = l.length + 1 := by simp
    rw [hlen, List.flatMap_append]
    refine ownsRow_keep (by simpa using hown) fun j hj => Below.heap_setCell _ _ _ _ (fun e => hgp ?_)
    simp only [Value.ownBlock, Option.some.injEq] at hj
    rw [hj]; exact e
  · intro g hg'
    simp only [Value.ownBlock, Option.some.injEq] at hg'
    exact ⟨.inr hg', by rw [← hg']; exact hgp⟩
  · intro j hj
    rcases hj with hj | rfl
    · exact .inl hj
    · rcases hat with hat | hat
      · exact .inl (h3 gg hat).1
      · right; omega


def resM (room : Nat) (l : List Q) (id g len f t : Int) : Int × Int × List Q :=
  if len < 1 ∨ 1048576 < len ∨ f < 0 ∨ t < f ∨ 1099511627776 < t then (0, 1, l)
  else if (l.any fun x => x.1 == id) = true then (0, 7, l)
  else if l.length = room then (0, 3, l)
  else if (latM g len f t l).2 = true then ((latM g len f t l).1, 0, l ++ [(id, g, (latM g len f t l).1, (latM g len f t l).1 + len)])
  else (0, 4, l)

theorem latM_in {g len f t p : Int} {l : List Q} (h : latM g len f t l = (p, true)) : okP g len f t l p = true := by
  unfold latM at h
  split at h
  · rename_i q hq
    simp only [Prod.mk.injEq, and_true] at h
    subst h
    exact List.find?_some hq
  · simp at h
theorem okP_bd {g len f t p : Int} {l : List Q} (h : okP g len f t l p = true) : f ≤ p ∧ p + len ≤ t ∧ (l.any (hits g p (p + len))) = false := by
  unfold okP at h
  simp only [Bool.and_eq_true, decide_eq_true_eq, Bool.not_eq_true'] at h
  exact ⟨h.1, h.2.1, h.2.2⟩

set_option maxHeartbeats 4000000 in
set_option maxRecDepth 100000 in
theorem reserve_any {B : Nat} {w : World} {p : Nat} {F : Nat → Prop} {l : List Q} {room : Nat} (h : HA 59 B w p F l room) (hB : B ≤ w.heap.size) (hll : l.length ≤ 256) (hl : ∀ s ∈ l, 0 ≤ s.2.2.1 ∧ s.2.2.1 ≤ 1099511627776) (id g len f t : Int) :
    Calls Try.prog 33 #[.pointer (some ⟨p, 0, none⟩), .int .i64 id, .int .i64 g, .int .i64 len, .int .i64 f, .int .i64 t] w fun e w' => e = .returned (.tuple #[.int .i64 (resM room l id g len f t).1, .int .i64 (resM room l id g len f t).2.1]) ∧
      ∃ F', HA 59 B w' p F' (resM room l id g len f t).2.2 room ∧ (∀ j, F' j → F j ∨ w.heap.size ≤ j) ∧ Fr F w w' := by
  by_cases hbad : len < 1 ∨ 1048576 < len ∨ f < 0 ∨ t < f ∨ 1099511627776 < t
  · have E : Hid (resM room l id g len f t = (0, 1, l)) := by show _ = _; unfold resM; rw [if_pos hbad]
    have H := Lib.hid h
    clear h hl
    by_cases c1 : len < 1
    · go_enter Try.func33, Try.ntmps33
      go_wp2_with fail
      go_ret2
      rw [E.out]
      exact ⟨rfl, F, H.out, fun j hj => .inl hj, Fr.refl _ _⟩
    by_cases c2 : 1048576 < len
    · go_enter Try.func33, Try.ntmps33
      go_wp2_with fail
      go_ret2
      rw [E.out]
      exact ⟨rfl, F, H.out, fun j hj => .inl hj, Fr.refl _ _⟩
    by_cases c3 : f < 0
    · go_enter Try.func33, Try.ntmps33
      go_wp2_with fail
      go_ret2
      rw [E.out]
      exact ⟨rfl, F, H.out, fun j hj => .inl hj, Fr.refl _ _⟩
    by_cases c4 : t < f
    · go_enter Try.func33, Try.ntmps33
      go_wp2_with fail
      go_ret2
      rw [E.out]
      exact ⟨rfl, F, H.out, fun j hj => .inl hj, Fr.refl _ _⟩
    have c5 : 1099511627776 < t := by omega
    go_enter Try.func33, Try.ntmps33
    go_wp2_with fail
    go_ret2
    rw [E.out]
    exact ⟨rfl, F, H.out, fun j hj => .inl hj, Fr.refl _ _⟩
  · have HA1 := Lib.hid (has_any h id)
    have H := Lib.hid h
    have c1 : ¬ len < 1 := by omega
    have c2 : ¬ 1048576 < len := by omega
    have c3 : ¬ f < 0 := by omega
    have c4 : ¬ t < f := by omega
    have c5 : ¬ 1099511627776 < t := by omega
    cases hany : l.any fun x => x.1 == id
    rotate_left
    · have E : Hid (resM room l id g len f t = (0, 7, l)) := by show _ = _; unfold resM; rw [if_neg hbad, hany, if_pos rfl]
      rw [hany] at HA1
      clear h hl hany hbad
      go_enter Try.func33, Try.ntmps33
      go_wp2_with fail
      refine HA1.out.mono ?_
      rintro e w2 ⟨rfl, hb2⟩
      have Hb2 := Lib.hid hb2
      clear hb2
      go_wp2_with fail
      go_ret2
      rw [E.out]
      exact ⟨rfl, F, H.out.keep (Fr.of_below (S := fun _ => False) Hb2.out) (by simp), fun j hj => .inl hj, Fr.of_below Hb2.out⟩
    · by_cases hfull : l.length = room
      · have E : Hid (resM room l id g len f t = (0, 3, l)) := by show _ = _; unfold resM; rw [if_neg hbad, hany, if_neg (by simp), if_pos hfull]
        have hfb : ((l.length : Int) == (room : Int)) = true := by simp; omega
        rw [hany] at HA1
        clear h hl hany hbad hfull
        go_enter Try.func33, Try.ntmps33
        go_wp2_with fail
        refine HA1.out.mono ?_
        rintro e w2 ⟨rfl, hb2⟩
        have h2 := H.out.keep (Fr.of_below (S := fun _ => False) hb2) (by simp)
        obtain ⟨a, c, hc, _, _⟩ := h2.row
        have hrm := h2.room
        have HH2 := Lib.hid h2
        have Hb2 := Lib.hid hb2
        clear hb2 h2
        go_wp2_with fail
        go_quiet (fail)
        go_wp2_with fail
        go_ret2
        rw [E.out]
        exact ⟨rfl, F, HH2.out.keep (T := fun _ => False) ((Fr.refl _ _).drewN _) (by simp), fun j hj => .inl hj, ((Fr.of_below (S := F) Hb2.out)).drewN _⟩
      · have hfb : ((l.length : Int) == (room : Int)) = false := by simp; omega
        rw [hany] at HA1
        obtain ⟨lp, lo, hlm⟩ : ∃ lp lo, latM g len f t l = (lp, lo) := ⟨_, _, rfl⟩
        have HE : Hid (resM room l id g len f t = if lo = true then (lp, 0, l ++ [(id, g, lp, lp + len)]) else (0, 4, l)) := by
          show _ = _; unfold resM; rw [if_neg hbad, hany, if_neg (by simp), if_neg hfull, hlm]
        have HLat : Hid (∀ W, HA 59 B W p F l room → Calls Try.prog 51 #[.pointer (some ⟨p, 0, none⟩), .int .i64 g, .int .i64 len, .int .i64 f, .int .i64 t] W fun e w' => e = .returned (.tuple #[.int .i64 lp, .bool lo]) ∧ Below W.heap.size W w') := fun W hW => by
          have := latest_any hW hll g len f t (by omega) (by omega) (by omega) (by omega) hl
          rw [hlm] at this
          exact this
        have HBd : Hid (lo = true → f ≤ lp ∧ lp + len ≤ t) := fun e => by
          subst e
          obtain ⟨x, y, _⟩ := okP_bd (latM_in hlm)
          exact ⟨x, y⟩
        clear h hl hany hbad hfull hlm
        go_enter Try.func33, Try.ntmps33
        go_wp2_with fail
        refine HA1.out.mono ?_
        rintro e w2 ⟨rfl, hb2⟩
        have h2 := H.out.keep (Fr.of_below (S := fun _ => False) hb2) (by simp)
        obtain ⟨a, c, hc, _, _⟩ := h2.row
        have hrm := h2.room
        have HH2 := Lib.hid h2
        have Hf2 : Hid (Fr F w w2) := Fr.of_below hb2
        clear hb2 h2 HA1 H
        go_wp2_with fail
        go_quiet (fail)
        go_wp2_with fail
        generalize hw3 : World.drewN w2 _ = w3
        have h3 : HA 59 B w3 p F l room := by rw [← hw3]; exact HH2.out.keep (T := fun _ => False) ((Fr.refl _ _).drewN _) (by simp)
        have hf3 : Fr F w w3 := by rw [← hw3]; exact Hf2.out.drewN _
        have HL3 := Lib.hid (HLat.out w3 h3)
        have H3 := Lib.hid h3
        have Hf3 := Lib.hid hf3
        clear hw3 h3 hf3 HH2 Hf2 hc hrm HLat
        refine HL3.out.mono ?_
        rintro e w4 ⟨rfl, hb4⟩
        have h4 : HA 59 B w4 p F l room := H3.out.keep (Fr.of_below (S := fun _ => False) hb4) (by simp)
        have hf4 : Fr F w w4 := Hf3.out.trans (T := fun _ => False) (U := F) (Fr.of_below hb4) (fun _ _ h => h) (by simp)
        cases lo
        · have H4 := Lib.hid h4
          have Hf4 := Lib.hid hf4
          clear h4 hf4 hb4 H3 Hf3 HL3
          go_wp2_with fail
          go_ret2
          rw [HE.out]
          exact ⟨rfl, F, H4.out, fun j hj => .inl hj, Hf4.out⟩
        · obtain ⟨bd1, bd2⟩ := HBd.out rfl
          have hsum : IntKind.i64.wrap (lp + len) = lp + len := IntWalk.i64_in _ (by omega)
          obtain ⟨a4, c4', hrow, ho4, hbk⟩ := h4.row
          have z4 := h4.fz 0
          have hp4 := h4.p1
          have H4 := Lib.hid h4
          have Hf4 := Lib.hid hf4
          have HO4 := Lib.hid ho4
          have hnp : (Value.slice a4 l.length c4').ownBlock ≠ some p := fun e => (hbk p e).2 rfl
          have hBw : B ≤ w4.heap.size := by have := hf4.size; omega
          have Hsz : Hid (w.heap.size ≤ w4.heap.size) := hf4.size
          obtain ⟨i0, ki, kz0, kz1, kz2⟩ := info_parts Try.info59
          have Hnp := Lib.hid hnp
          clear h4 hf4 hb4 H3 Hf3 HL3 ho4 hbk hnp
          go_wp2_with (at_builtin; refine wpList_append_lies _ rfl _ _ 55 rfl B 59 i0 _ 4 32 Try.underlying55 ki kz0 kz1 kz2 rfl (by decide) _ _ _ rfl (HO4.out.alloc _) ⟨w4.heap.size, 0, none⟩ 1 1 (qc (id, g, lp, lp + len)) rfl rfl (fun j u hu => cell_new _ _ _ j u hu) (by simp [qc, Value.oneCell']) (by omega) (by unfold maxLen; omega) (by omega) (by simp; omega) _ rfl ?_)
          intro gg cap6 w6 hown6 hgrow6 hat6 hlt6
          obtain ⟨hG, hGf, hGF, c7⟩ := H4.out.growE hrow (W := w4.alloc _) ((Fr.refl _ _).alloc _) hown6 hgrow6 hat6 hlt6
          have G := grown_keep (w := w4) (p := p) hgrow6 ((Fr.refl _ _).alloc _) hp4 Hnp.out
          have k6 : w6.cell? ⟨p, 0, none⟩ = some (.slice a4 l.length c4') := (G 0).1.trans hrow
          have f6 : w6.frozen? ⟨p, 0, none⟩ = false := (G 0).2.trans z4
          have HG := Lib.hid hG
          have HGf := Lib.hid hGf
          have HGF := Lib.hid hGF
          clear hG hGf hGF c7 hown6 hgrow6 hat6 hlt6 G hrow z4
          go_wp2_with fail
          go_ret2
          rw [HE.out]
          exact ⟨rfl, _, HG.out, fun j hj => (HGF.out j hj).imp (fun h => h) (fun h => by have := Hsz.out; omega), Hf4.out.trans (U := F) HGf.out (fun _ _ h => h) (fun _ _ h => h)⟩
end Go.Proofs.Ytaogdgbijjjpjaa
