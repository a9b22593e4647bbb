/- WALKS: the heap's changes: out, Pop, Remove, Change, Push. -/
import Derived.Test.YtaogdgbijjjpjaaW6
namespace Go.Proofs.Ytaogdgbijjjpjaa
open Go.RowKit
set_option linter.unusedVariables false

/-- The row is cut. -/
theorem HA.cut {e : TypeId} {B : Nat} {w : World} {p g c : Nat} {F : Nat → Prop} {l : List Q} {room : Nat} (h : HA e B w p F l room) (hc : w.cell? ⟨p, 0, none⟩ = some (.slice (some ⟨g, 0, none⟩) l.length c)) (k : Nat) (hk : k ≤ l.length) :
    HA e B (w.setCell ⟨p, 0, none⟩ (.slice (some ⟨g, 0, none⟩) k c)) p F (l.take k) room := by
  obtain ⟨a, c', h1, h2, h3⟩ := h.row
  rw [hc] at h1
  simp only [Option.some.injEq, Value.slice.injEq, true_and] at h1
  obtain ⟨rfl, rfl⟩ := h1
  have hgp : g ≠ p := (h3 g rfl).2
  have hl : (l.take k).length = k := by rw [List.length_take, Nat.min_eq_left hk]
  refine ⟨by simpa [World.setCell] using h.p1, h.fp, fun j hj => by simpa [World.setCell] using h.flt j hj, by rw [World.cell?_setCell_other _ _ _ _ (addr_ne (by omega))]; exact h.room, fun o => by rw [World.frozen?_setCell]; exact h.fz o, some ⟨g, 0, none⟩, c, ?_, ?_, ?_⟩
  · rw [hl]; exact World.cell?_setCell_same _ _ _ hc
  · rw [hl]; exact ownsRow_keep (ownsRow_prefix h2 rfl hk) fun j hj => Below.heap_setCell _ _ _ _ (fun e => hgp (by simp only [Value.ownBlock, Option.some.injEq] at hj; rw [hj]; exact e))
  · intro j hj
    exact h3 j hj

theorem outL_length_pos {l : List Q} {i : Nat} (hi : i < l.length) : ((swp l i (l.length - 1)).take (l.length - 1)).length = l.length - 1 := by rw [List.length_take, swp_length]; omega

set_option maxHeartbeats 1000000 in
theorem out_any {B : Nat} {w : World} {p : Nat} {F : Nat → Prop} {l : List Q} {room : Nat} (h : HA 23 B w p F l room) (i : Nat) (hi : i < l.length) (hll : l.length ≤ 4096) :
    Calls Try.prog 47 #[.pointer (some ⟨p, 0, none⟩), .int .i64 i] w fun e w' => e = .returned (.tuple #[]) ∧ HA 23 B w' p F (outL ltK l i) room ∧ Fr F w w' := by
  obtain ⟨a, c, hc, ho, _⟩ := h.row
  obtain ⟨g, cap, hv, _⟩ := ownsRow_cells ho (by omega)
  simp only [Value.slice.injEq, true_and] at hv
  obtain ⟨rfl, _⟩ := hv
  obtain ⟨n, hn⟩ : ∃ n, l.length - 1 = n := ⟨_, rfl⟩
  have hS := swap_h h i n hi (by omega)
  have hlen : l.length = n + 1 := by omega
  have HS := Lib.hid hS
  have Hn := Lib.hid hn
  have Hlen := Lib.hid hlen
  have hle : n + 1 ≤ 4096 := by omega
  have hin : i ≤ n := by omega
  rw [hlen] at hc
  have hlc := h.len_le
  clear hS ho hn hlen hi hll hlc h
  have hnI : ((n + 1 : Nat) : Int) - 1 = (n : Int) := by omega
  have hnI2 : (n : Int) + 1 - 1 = (n : Int) := by omega
  go_enter Try.func47, Try.ntmps47
  go_wp2_with fail
  refine HS.out.mono ?_
  rintro e w2 ⟨rfl, h2, hf2⟩
  have hsl := swp_length l i n
  obtain ⟨a2, c2, hc2, ho2, _⟩ := h2.row
  obtain ⟨g2, cap2, hv2, _, _, hcap, _⟩ := ownsRow_cells ho2 (by rw [hsl, Hlen.out]; omega)
  simp only [Value.slice.injEq, true_and] at hv2
  obtain ⟨rfl, rfl⟩ := hv2
  have hcut := h2.cut hc2 n (by rw [hsl, Hlen.out]; omega)
  have hfz := h2.fz 0
  rw [hsl, Hlen.out] at hc2 hcap
  have hncI : (n : Int) ≤ (c2 : Int) := by omega
  have hn0 : (0 : Int) ≤ (n : Int) := by omega
  have hf3 : Fr F w (w2.setCell ⟨p, 0, none⟩ (.slice (some ⟨g2, 0, none⟩) n c2)) := hf2.setCell (p := ⟨p, 0, none⟩) h2.fp _
  have hl1 : ((swp l i n).take n).length = n := by rw [List.length_take, hsl, Hlen.out]; omega
  have Hcut := Lib.hid hcut
  have Hf3 := Lib.hid hf3
  have Hl1 := Lib.hid hl1
  have hout : outL ltK l i = if i < n then upL ltK (downL ltK ((swp l i n).take n) i) i else (swp l i n).take n := by unfold outL; rw [Hn.out]
  have Hout := Lib.hid hout
  clear ho2 hcut hf3 hsl hl1 hout h2 hf2
  by_cases hlt : i < n
  · have hltI : (i : Int) < (n : Int) := by omega
    have hD := Lib.hid (down_any Hcut.out i (by rw [Hl1.out]; exact hlt) (by rw [Hl1.out]; omega))
    have E : Hid (outL ltK l i = upL ltK (downL ltK ((swp l i n).take n) i) i) := by show _ = _; rw [Hout.out, if_pos hlt]
    have hdl : (downL ltK ((swp l i n).take n) i).length = n := by
      rw [downL_length _ _ _ (Nat.le_refl _), Hl1.out]
    have Hdl := Lib.hid hdl
    clear hdl
    go_wp2_with fail
    refine hD.out.mono ?_
    rintro e w3 ⟨rfl, h3, hf3⟩
    have hU := Lib.hid (up_any h3 i (by rw [Hdl.out]; exact hlt))
    have Hf4 := Lib.hid hf3
    clear h3 hf3
    go_wp2_with fail
    refine hU.out.mono ?_
    rintro e w4 ⟨rfl, h4, hf4⟩
    go_wp2_with fail
    go_end0
    exact ⟨rfl, by rw [E.out]; exact h4, (Hf3.out.trans Hf4.out (fun _ _ h => h) (fun _ _ h => h)).trans hf4 (fun _ _ h => h) (fun _ _ h => h)⟩
  · have hltI : (n : Int) ≤ (i : Int) := by omega
    have E : Hid (outL ltK l i = (swp l i n).take n) := by show _ = _; rw [Hout.out, if_neg hlt]
    clear hlt
    go_wp2_with fail
    go_end0
    exact ⟨rfl, by rw [E.out]; exact Hcut.out, Hf3.out⟩
end Go.Proofs.Ytaogdgbijjjpjaa
