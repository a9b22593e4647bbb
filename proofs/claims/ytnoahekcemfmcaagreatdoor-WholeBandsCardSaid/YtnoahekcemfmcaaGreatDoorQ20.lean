/- A part of the walk: Xb Xc. -/
import Derived.Test.YtnoahekcemfmcaaGreatDoorQ19
namespace Go.Proofs.YtnoahekcemfmcaaGreatDoor
set_option linter.unusedVariables false
set_option linter.unusedSimpArgs false
section
open Go.RowKit
structure XR (col : Nat → Nat) (w : World) (col' : Nat → Nat) (w' : World) : Prop where
 fr : Fr (fun k => col k ≠ 0) w w'
 c0 : ∀ k, k < w.heap.size → col k = 0 → col' k = 0
theorem XR.refl (col : Nat → Nat) (w : World) : XR col w col w := ⟨Fr.refl _ _, fun _ _ h => h⟩
theorem XR.trans {c1 c2 c3 : Nat → Nat} {w1 w2 w3 : World} (h : XR c1 w1 c2 w2) (k : XR c2 w2 c3 w3) : XR c1 w1 c3 w3 :=
 ⟨h.fr.trans k.fr (fun _ _ h => h) (fun i hi e => fun e' => e (h.c0 i hi e')), fun i hi e => k.c0 i (Nat.lt_of_lt_of_le hi h.fr.size) (h.c0 i hi e)⟩
theorem XR.of_fr {col : Nat → Nat} {w w' : World} {T : Nat → Prop} (h : Fr T w w') (hT : ∀ k, T k → col k ≠ 0) : XR col w col w' := ⟨h.mono fun i _ t => hT i t, fun _ _ h => h⟩
theorem XR.of_below {col : Nat → Nat} {w w' : World} (h : Below w.heap.size w w') : XR col w col w' := ⟨Fr.of_below h, fun _ _ h => h⟩
section
variable {B n : Nat} {A : XFix} {bu : Int} {tk : Nat → Tk} {w w' : World} {s : St} {out : List Ev} {Mx : Nat} {col : Nat → Nat} {F : Nat → Prop} {hm : List Q} {so : Value} {jbk : Nat → Nat} {gs : List Gate} {kj : Nat → Option Jb} {T : Nat → Prop}
theorem XW.trace (h : XW B A bu n tk w s out Mx col F hm so jbk gs kj) (hf : Fr (fun k => k = A.ty ∨ k = A.tp ∨ k = A.tq) w w') (ht : ∃ f m ef tf, TA w' A.ty A.tp A.tq 64 f m ef tf) : XW B A bu n tk w' s out Mx col F hm so jbk gs kj := by
 have h4 : ∀ k, (k = A.ty ∨ k = A.tp ∨ k = A.tq) → col k = 4 := fun k e => by
  rcases e with rfl | rfl | rfl
  ·exact h.c.t.1
  ·exact h.c.t.2.1
  ·exact h.c.t.2.2
 have ne : ∀ {k c : Nat}, col k = c → c ≠ 4 → ¬ (k = A.ty ∨ k = A.tp ∨ k = A.tq) := fun e hc t => hc (by rw [← e]; exact h4 _ t)
 have lt : ∀ {k c : Nat}, col k = c → c ≠ 0 → k < w.heap.size := fun e hc => (h.c.lt _ (by rw [e]; exact hc)).2
 have h16 := h.c.n16
 exact ⟨h.f.keep hf (ne h.c.x (by omega)), fun j hj => rg_fr hf (lt h.c.tb (by omega)) (ne h.c.tb (by omega)) (h.tsk j hj),
  h.jb.keep hf (lt h.c.jb (by omega)) (ne h.c.jb (by omega)) (fun i J hi e => ⟨lt (h.c.j i J hi e) (by omega), ne (h.c.j i J hi e) (by omega)⟩),
  h.sk.keep hf (lt h.c.sb (by omega)) (ne h.c.sb (by omega)) (fun i hi => ⟨ne (h.c.sk i hi).1 (by omega), ne (h.c.sk i hi).2.1 (by omega), ne (h.c.sk i hi).2.2.1 (by omega), ne (h.c.sk i hi).2.2.2 (by omega)⟩),
  h.hp.keep hf (fun k hk => ne (h.c.hp k hk) (by omega)), h.g.keep hf (ne h.c.g.1 (by omega)) (ne h.c.g.2 (by omega)), ht,
  ownsRow_keep h.o (fun k hk => hf.block k (lt (h.c.o k hk) (by omega)) (ne (h.c.o k hk) (by omega))), { h.c with lt := fun k hk => ⟨(h.c.lt k hk).1, Nat.lt_of_lt_of_le (h.c.lt k hk).2 hf.size⟩ }, h.gl, h.ga, h.hk, h.ok, h.jk, h.no, h.mx⟩
theorem XW.more (h : XW B A bu n tk w s out Mx col F hm so jbk gs kj) {w6 : World} {gg c2 : Nat} {e : Ev} (hf : Fr (fun k => so.ownBlock = some k) w w6) (ho : w6.ownsRow B 44 5 (.slice (some ⟨gg, 0, none⟩) (out.length + 1) c2) (out.length + 1) (out.flatMap evc ++ evc e))
  (hg : so.ownBlock = some gg ∨ w.heap.size ≤ gg) (hlt : gg < w6.heap.size) :
  ∃ col', XW B A bu n tk (w6.setCell ⟨A.x, 9, none⟩ (.slice (some ⟨gg, 0, none⟩) (out.length + 1) c2)) s (out ++ [e]) Mx col' F hm (.slice (some ⟨gg, 0, none⟩) (out.length + 1) c2) jbk gs kj ∧ (∀ k, k ≠ gg → col' k = col k) ∧ (∀ k, k < w.heap.size → col k = 0 → col' k = 0) := by
 have h16 := h.c.n16
 have hxl : A.x < w.heap.size := block_lt h.f.f0
 have hgx : gg ≠ A.x := by
  rcases hg with hg | hg
  ·intro e; have h1 := h.c.o gg hg; rw [e, h.c.x] at h1; omega
  ·omega
 have hfull : Fr (fun k => so.ownBlock = some k ∨ k = A.x) w (w6.setCell ⟨A.x, 9, none⟩ (.slice (some ⟨gg, 0, none⟩) (out.length + 1) c2)) := (hf.mono (T := fun k => so.ownBlock = some k ∨ k = A.x) (fun _ _ h => .inl h)).setCell (p := ⟨A.x, 9, none⟩) (.inr rfl) _
 have hc : ∀ k, (so.ownBlock = some k ∨ k = A.x) → col k = 6 ∨ col k = 1 := fun k e => e.elim (fun e => .inl (h.c.o k e)) (fun e => .inr (by rw [e]; exact h.c.x))
 have ne : ∀ {k c : Nat}, col k = c → c ≠ 6 → c ≠ 1 → ¬ (so.ownBlock = some k ∨ k = A.x) := fun e h6 h1 t => by rcases hc _ t with h | h <;> omega
 have lt : ∀ {k c : Nat}, col k = c → c ≠ 0 → k < w.heap.size := fun e hc => (h.c.lt _ (by rw [e]; exact hc)).2
 have hnx : ¬ so.ownBlock = some A.x := fun e => by have := h.c.o _ e; rw [h.c.x] at this; omega
 have g1 : X1 w6 A bu n s.now s.last so := h.f.keep hf hnx
 have hcg : ∀ {k c : Nat}, col k = c → c ≠ 6 → c ≠ 0 → k ≠ gg := fun e h6 h0 => by
  rintro rfl
  rcases hg with hg | hg
  ·have := h.c.o _ hg; omega
  ·have := lt e h0; omega
 refine ⟨fun k => if k = gg then 6 else col k, ⟨⟨?_, ?_, ?_, ?_, ?_, ?_, ?_, ?_, ?_, ?_, fun o => by rw [World.frozen?_setCell]; exact g1.fz o⟩, fun j hj => rg_fr hfull (lt h.c.tb (by omega)) (ne h.c.tb (by omega) (by omega)) (h.tsk j hj),
  h.jb.keep hfull (lt h.c.jb (by omega)) (ne h.c.jb (by omega) (by omega)) (fun i J hi e => ⟨lt (h.c.j i J hi e) (by omega), ne (h.c.j i J hi e) (by omega) (by omega)⟩),
  h.sk.keep hfull (lt h.c.sb (by omega)) (ne h.c.sb (by omega) (by omega)) (fun i hi => ⟨ne (h.c.sk i hi).1 (by omega) (by omega), ne (h.c.sk i hi).2.1 (by omega) (by omega), ne (h.c.sk i hi).2.2.1 (by omega) (by omega), ne (h.c.sk i hi).2.2.2 (by omega) (by omega)⟩),
  h.hp.keep hfull (fun k hk => ne (h.c.hp k hk) (by omega) (by omega)), h.g.keep hfull (ne h.c.g.1 (by omega) (by omega)) (ne h.c.g.2 (by omega) (by omega)), ?_, ?_, ?_, h.gl, h.ga, h.hk, h.ok, h.jk, h.no, h.mx⟩, fun k hk => if_neg hk, fun k hk e => ?_⟩
 ·rw [World.cell?_setCell_other _ _ _ _ (addr_ne (by omega))]; exact g1.f0
 ·rw [World.cell?_setCell_other _ _ _ _ (addr_ne (by omega))]; exact g1.f1
 ·rw [World.cell?_setCell_other _ _ _ _ (addr_ne (by omega))]; exact g1.f2
 ·rw [World.cell?_setCell_other _ _ _ _ (addr_ne (by omega))]; exact g1.f3
 ·rw [World.cell?_setCell_other _ _ _ _ (addr_ne (by omega))]; exact g1.f4
 ·rw [World.cell?_setCell_other _ _ _ _ (addr_ne (by omega))]; exact g1.f5
 ·rw [World.cell?_setCell_other _ _ _ _ (addr_ne (by omega))]; exact g1.f6
 ·rw [World.cell?_setCell_other _ _ _ _ (addr_ne (by omega))]; exact g1.f7
 ·rw [World.cell?_setCell_other _ _ _ _ (addr_ne (by omega))]; exact g1.f8
 ·exact World.cell?_setCell_same _ _ _ g1.f9
 ·obtain ⟨f, m, ef, tf, a⟩ := h.t
  exact ⟨f, m, ef, tf, a.keep hfull (ne h.c.t.1 (by omega) (by omega)) (ne h.c.t.2.1 (by omega) (by omega)) (ne h.c.t.2.2 (by omega) (by omega))⟩
 ·rw [List.flatMap_append]
  simp only [List.flatMap_cons, List.flatMap_nil, List.append_nil, List.length_append, List.length_cons, List.length_nil]
  exact ownsRow_keep ho (fun k hk => Below.heap_setCell _ _ _ _ (by simp only [Value.ownBlock, Option.some.injEq] at hk; subst hk; exact fun e => hgx e))
 ·have cc := h.c
  refine ⟨?_, ?_, ?_, ?_, fun i hi => ⟨?_, ?_, ?_, ?_⟩, fun k hk => ?_, ⟨?_, ?_⟩, ⟨?_, ?_, ?_⟩, fun k hk => ?_, fun i J hi e => ?_, fun k hk => ?_, h16⟩
  ·rw [if_neg (hcg cc.x (by omega) (by omega))]; exact cc.x
  ·rw [if_neg (hcg cc.tb (by omega) (by omega))]; exact cc.tb
  ·rw [if_neg (hcg cc.jb (by omega) (by omega))]; exact cc.jb
  ·rw [if_neg (hcg cc.sb (by omega) (by omega))]; exact cc.sb
  ·rw [if_neg (hcg (cc.sk i hi).1 (by omega) (by omega))]; exact (cc.sk i hi).1
  ·rw [if_neg (hcg (cc.sk i hi).2.1 (by omega) (by omega))]; exact (cc.sk i hi).2.1
  ·rw [if_neg (hcg (cc.sk i hi).2.2.1 (by omega) (by omega))]; exact (cc.sk i hi).2.2.1
  ·rw [if_neg (hcg (cc.sk i hi).2.2.2 (by omega) (by omega))]; exact (cc.sk i hi).2.2.2
  ·rw [if_neg (hcg (cc.hp k hk) (by omega) (by omega))]; exact cc.hp k hk
  ·rw [if_neg (hcg cc.g.1 (by omega) (by omega))]; exact cc.g.1
  ·rw [if_neg (hcg cc.g.2 (by omega) (by omega))]; exact cc.g.2
  ·rw [if_neg (hcg cc.t.1 (by omega) (by omega))]; exact cc.t.1
  ·rw [if_neg (hcg cc.t.2.1 (by omega) (by omega))]; exact cc.t.2.1
  ·rw [if_neg (hcg cc.t.2.2 (by omega) (by omega))]; exact cc.t.2.2
  ·simp only [Value.ownBlock, Option.some.injEq] at hk
   rw [if_pos hk.symm]
  ·rw [if_neg (hcg (cc.j i J hi e) (by omega) (by omega))]; exact cc.j i J hi e
  ·have hs : w6.heap.size = (w6.setCell ⟨A.x, 9, none⟩ (.slice (some ⟨gg, 0, none⟩) (out.length + 1) c2)).heap.size := by simp
   by_cases hkg : k = gg
   ·refine ⟨?_, by rw [← hs, hkg]; exact hlt⟩
    rw [hkg]; exact ownsRow_block ho gg rfl
   ·rw [if_neg hkg] at hk
    have := cc.lt k hk
    exact ⟨this.1, by rw [← hs]; have := hf.size; omega⟩
 ·by_cases hkg : k = gg
  ·rw [hkg] at e hk
   rcases hg with hg | hg
   ·have := h.c.o _ hg; omega
   ·omega
  ·show (if k = gg then 6 else col k) = 0
   rw [if_neg hkg]; exact e
theorem col_ne {col : Nat → Nat} {a b c d : Nat} (h1 : col a = c) (h2 : col b = d) (h : c ≠ d) : a ≠ b := fun e => h (by rw [← h1, ← h2, e])
set_option maxHeartbeats 4000000 in
set_option maxRecDepth 100000 in
theorem say_is (h : XW B A bu n tk w s out Mx col F hm so jbk gs kj) (a i : Nat) (no band : Int) (h1 : 1 ≤ a) (h2 : a < 12) (h3 : i < 16) (ho : out.length ≤ 100000000) :
  Calls Tryz.prog 64 #[.pointer (some ⟨A.x, 0, none⟩), .int .i64 a, .int .i64 i, .int .i64 no, .int .i64 band] w fun e w' => e = .returned (.tuple #[]) ∧
   ∃ col' so', XW B A bu n tk w' s (out ++ [⟨s.now, a, i, no, band⟩]) Mx col' F hm so' jbk gs kj ∧ XR col w col' w' := by
 have f2 := h.f.f2
 have hxl : A.x < w.heap.size := block_lt h.f.f0
 obtain ⟨i0, ki, kz0, kz1, kz2⟩ := info_parts Tryz.info44
 have hbw := bel_alloc (Below.refl w.heap.size w) (.cells #[.int .i64 s.now, .int .i64 a, .int .i64 i, .int .i64 no, .int .i64 band] 44)
 have hX : Blk5 (w.alloc (.cells #[.int .i64 s.now, .int .i64 a, .int .i64 i, .int .i64 no, .int .i64 band] 44)) w.heap.size (evf s.now a i no band) :=
  ⟨fun j hj => cell_newb w _ 44 _ j _ rfl (by match j, hj with | 0, _ => rfl | 1, _ => rfl | 2, _ => rfl | 3, _ => rfl | 4, _ => rfl), fun o => by simp⟩
 have hW := Lib.hid (h.below hbw)
 have hcol : Hid (col w.heap.size = 0) := by
  by_cases e : col w.heap.size = 0
  ·exact e
  ·have := (h.c.lt _ e).2; omega
 have HR := Lib.hid (XR.of_below (col := col) hbw)
 have HXL := Lib.hid hxl
 clear h hbw
 go_enter Tryz.func64, Tryz.ntmps64
 go_wp2_with fail
 generalize hwb : w.heap.size = wb at *
 have HWB := Lib.hid hwb
 clear hwb
 generalize w.alloc (.cells #[.int .i64 s.now, .int .i64 a, .int .i64 i, .int .i64 no, .int .i64 band] 44) = w1 at *
 have f8 := hW.out.f.f8
 have hxl1 : A.x < w1.heap.size := block_lt f8
 have hwl1 : wb < w1.heap.size := hX.lt
 have hxt : ¬ (A.x = A.ty ∨ A.x = A.tp ∨ A.x = A.tq) := fun e => e.elim (col_ne hW.out.c.x hW.out.c.t.1 (by omega)) (fun e => e.elim (col_ne hW.out.c.x hW.out.c.t.2.1 (by omega)) (col_ne hW.out.c.x hW.out.c.t.2.2 (by omega)))
 have hwt : ¬ (wb = A.ty ∨ wb = A.tp ∨ wb = A.tq) := fun e => e.elim (col_ne hcol.out hW.out.c.t.1 (by omega)) (fun e => e.elim (col_ne hcol.out hW.out.c.t.2.1 (by omega)) (col_ne hcol.out hW.out.c.t.2.2 (by omega)))
 have HQ : Hid (∀ w', Fr (fun k => k = A.ty ∨ k = A.tp ∨ k = A.tq) w1 w' → (w'.cell? ⟨A.x, 8, none⟩ = some (.pointer (some ⟨A.ty, 0, none⟩)) ∧ w'.cell? ⟨wb, 0, none⟩ = some (.int .i64 s.now) ∧ w'.cell? ⟨wb, 1, none⟩ = some (.int .i64 a) ∧ w'.cell? ⟨wb, 2, none⟩ = some (.int .i64 i) ∧ w'.cell? ⟨wb, 3, none⟩ = some (.int .i64 no) ∧ w'.cell? ⟨wb, 4, none⟩ = some (.int .i64 band)) ∧ Fr (fun k => k = A.ty ∨ k = A.tp ∨ k = A.tq) w1 w') := fun w' hf => by
  have Y := hX.keep hf hwt
  exact ⟨⟨(hf.cell (p := ⟨A.x, 8, none⟩) hxl1 hxt).trans f8, Y.c 0 (by omega), Y.c 1 (by omega), Y.c 2 (by omega), Y.c 3 (by omega), Y.c 4 (by omega)⟩, hf⟩
 have HT : Hid (Calls Tryz.prog 98 #[.pointer (some ⟨A.ty, 0, none⟩), .agg #[.int .i64 s.now, .int .i64 a, .int .i64 i, .int .i64 no, .int .i64 band]] w1.drew fun e w' => e = .returned (.bool true) ∧ (∃ f' n' ef' tf', TA w' A.ty A.tp A.tq 64 f' n' ef' tf') ∧ Fr (fun j => j = A.ty ∨ j = A.tp ∨ j = A.tq) w1.drew w') := by
  obtain ⟨f, m, ef, tf, t0⟩ := hW.out.t
  exact tadd_is (t0.keep (T := fun _ => False) ((Fr.refl _ w1).drew) (by simp) (by simp) (by simp)) s.now no band h1 h2 h3
 clear f8
 refine wp_region_held_drew (S := (fun w' => (w'.cell? ⟨A.x, 8, none⟩ = some (.pointer (some ⟨A.ty, 0, none⟩)) ∧ w'.cell? ⟨wb, 0, none⟩ = some (.int .i64 s.now) ∧ w'.cell? ⟨wb, 1, none⟩ = some (.int .i64 a) ∧ w'.cell? ⟨wb, 2, none⟩ = some (.int .i64 i) ∧ w'.cell? ⟨wb, 3, none⟩ = some (.int .i64 no) ∧ w'.cell? ⟨wb, 4, none⟩ = some (.int .i64 band)) ∧ Fr (fun k => k = A.ty ∨ k = A.tp ∨ k = A.tq) w1 w')) (by kernel_rfl) ?hS0a (fun hHeld => ?_)
 case hS0a => (try dsimp only); exact HQ.out _ ((Fr.refl _ _).drew)
 refine wtk (i := 0) ?_
 try simp only [Act.put, List.setIfInBounds_toArray, List.set]
 refine wtk (i := 1) ?_
 try simp only [Act.put, List.setIfInBounds_toArray, List.set]
 refine wtk (i := 2) ?_
 try simp only [Act.put, List.setIfInBounds_toArray, List.set]
 refine wtk (i := 3) ?_
 try simp only [Act.put, List.setIfInBounds_toArray, List.set]
 refine wtk (i := 4) ?_
 try simp only [Act.put, List.setIfInBounds_toArray, List.set]
 refine wpAnyH_ready (rs := [5]) (by kernel_rfl) (by simp) ?_
 refine arc (fun K hK => ?_) AllReadyH.nil
 go_simp; go_at_call 98; refine Calls.mono HT.out ?_; rintro e w4 ⟨rfl, ht4, f4⟩
 refine hK.out _ _ ?hSa6 (fun hHeld2 => ?hra6)
 case hSa6 => (try dsimp only); exact HQ.out _ (Fr.trans (S := fun _ => False) ((Fr.refl _ w1).drew) f4 (fun _ _ h => h.elim) (fun _ _ h => h))
 clear hK K hHeld
 have hHeld := hHeld2
 clear hHeld2
 try simp only [Act.put, List.setIfInBounds_toArray, List.set]
 refine wpAnyH_done (by kernel_rfl) ?_ _
 have hF4 := hHeld.2
 go_wp2_with fail
 have hW4 := hW.out.trace hF4 ht4
 have hR4 : XR col w col w4 := HR.out.trans (XR.of_fr hF4 (fun k e => by
  rcases e with e | e | e
  ·rw [e, hW.out.c.t.1]; omega
  ·rw [e, hW.out.c.t.2.1]; omega
  ·rw [e, hW.out.c.t.2.2]; omega))
 have hX4 := hX.keep hF4 hwt
 clear hHeld ht4 f4 hF4 HT HQ hX hxl1 hwl1
 obtain ⟨a9, c9, rfl⟩ := ownsRow_form hW4.o
 have e0 : w4.cell? ⟨wb, 0, none⟩ = some (.int .i64 s.now) := hX4.c 0 (by omega)
 have e1 : w4.cell? ⟨wb, 1, none⟩ = some (.int .i64 a) := hX4.c 1 (by omega)
 have e2 : w4.cell? ⟨wb, 2, none⟩ = some (.int .i64 i) := hX4.c 2 (by omega)
 have e3 : w4.cell? ⟨wb, 3, none⟩ = some (.int .i64 no) := hX4.c 3 (by omega)
 have e4 : w4.cell? ⟨wb, 4, none⟩ = some (.int .i64 band) := hX4.c 4 (by omega)
 have f9 := hW4.f.f9
 have z9 := hW4.f.fz 9
 have hxl4 : A.x < w4.heap.size := block_lt f9
 have HO := Lib.hid hW4.o
 have HW4 := Lib.hid hW4
 have hwo : Hid (¬ (Value.slice a9 out.length c9).ownBlock = some wb) := fun e => by
  have := hW4.c.o wb e
  have := hcol.out
  omega
 have hxo : Hid (¬ (Value.slice a9 out.length c9).ownBlock = some A.x) := fun e => by
  have := hW4.c.o _ e
  have := hW4.c.x
  omega
 have hBw : B ≤ w4.heap.size := by
  have := hW4.c.lt A.x (by rw [hW4.c.x]; omega)
  omega
 have HR4 := Lib.hid hR4
 have hwl4 : wb < w4.heap.size := hX4.lt
 have HX4 := Lib.hid hX4
 have f9A : ∀ ob, (w4.alloc ob).cell? ⟨A.x, 9, none⟩ = some (.slice a9 out.length c9) := fun ob => (((Fr.refl (fun _ => False) w4).alloc ob).cell (p := ⟨A.x, 9, none⟩) hxl4 (by simp)).trans f9
 clear hW4 hX4 hR4
 have HQ2 : Hid (∀ w', Fr (fun k => k = A.x ∨ (Value.slice a9 out.length c9).ownBlock = some k) w4 w' → w'.cell? ⟨wb, 0, none⟩ = some (.int .i64 s.now) ∧ w'.cell? ⟨wb, 1, none⟩ = some (.int .i64 a) ∧ w'.cell? ⟨wb, 2, none⟩ = some (.int .i64 i) ∧ w'.cell? ⟨wb, 3, none⟩ = some (.int .i64 no) ∧ w'.cell? ⟨wb, 4, none⟩ = some (.int .i64 band) ∧ Fr (fun k => k = A.x ∨ (Value.slice a9 out.length c9).ownBlock = some k) w4 w') := fun w' hf => by
  have Y := HX4.out.keep hf (fun e => by
   rcases e with e | e
   ·have h0 := hcol.out; rw [e, HW4.out.c.x] at h0; omega
   ·exact hwo.out e)
  exact ⟨Y.c 0 (by omega), Y.c 1 (by omega), Y.c 2 (by omega), Y.c 3 (by omega), Y.c 4 (by omega), hf⟩
 clear e0 e1 e2 e3 e4
 refine wp_region_held_drew (S := (fun w' => w'.cell? ⟨wb, 0, none⟩ = some (.int .i64 s.now) ∧ w'.cell? ⟨wb, 1, none⟩ = some (.int .i64 a) ∧ w'.cell? ⟨wb, 2, none⟩ = some (.int .i64 i) ∧ w'.cell? ⟨wb, 3, none⟩ = some (.int .i64 no) ∧ w'.cell? ⟨wb, 4, none⟩ = some (.int .i64 band) ∧ Fr (fun k => k = A.x ∨ (Value.slice a9 out.length c9).ownBlock = some k) w4 w')) (by kernel_rfl) ?hS0b (fun hHeld => ?_)
 case hS0b => (try dsimp only); exact HQ2.out _ ((Fr.refl _ _).drew)
 refine wtk (i := 0) ?_
 try simp only [Act.put, List.setIfInBounds_toArray, List.set]
 refine wtk (i := 1) ?_
 try simp only [Act.put, List.setIfInBounds_toArray, List.set]
 refine wtk (i := 2) ?_
 try simp only [Act.put, List.setIfInBounds_toArray, List.set]
 refine wtk (i := 3) ?_
 try simp only [Act.put, List.setIfInBounds_toArray, List.set]
 refine wtk (i := 5) ?_
 try simp only [Act.put, List.setIfInBounds_toArray, List.set]
 refine wpAnyH_ready (rs := [4, 6]) (by kernel_rfl) (by simp) ?_
 refine arc (fun K hK => ?_) ?_
 ·skip
  go_simp
  refine hK.out _ _ ?hSb6 (fun hHeld2 => ?hrb6)
  case hSb6 => (try dsimp only); exact HQ2.out _ (by first | exact (Fr.refl _ _).drew | exact hHeld.2.2.2.2.2 | exact Fr.alloc hHeld.2.2.2.2.2 _ | exact Fr.grown hHeld.2.2.2.2.2 hgrow (fun g h _ => .inr h) | exact Fr.setCell hHeld.2.2.2.2.2 (p := ⟨A.x, 9, none⟩) (.inl rfl) _)
  clear hK K hHeld
  have hHeld := hHeld2
  clear hHeld2
  try simp only [Act.put, List.setIfInBounds_toArray, List.set]
  refine wpAnyH_ready (rs := [6]) (by kernel_rfl) (by simp) ?_
  refine arc (fun K hK => ?_) AllReadyH.nil
  go_simp
  refine hK.out _ _ ?hSb7 (fun hHeld2 => ?hrb7)
  case hSb7 => (try dsimp only); exact HQ2.out _ (by first | exact (Fr.refl _ _).drew | exact hHeld.2.2.2.2.2 | exact Fr.alloc hHeld.2.2.2.2.2 _ | exact Fr.grown hHeld.2.2.2.2.2 hgrow (fun g h _ => .inr h) | exact Fr.setCell hHeld.2.2.2.2.2 (p := ⟨A.x, 9, none⟩) (.inl rfl) _)
  clear hK K hHeld
  have hHeld := hHeld2
  clear hHeld2
  try simp only [Act.put, List.setIfInBounds_toArray, List.set]
  refine wpAnyH_ready (rs := [7]) (by kernel_rfl) (by simp) ?_
  refine arc (fun K hK => ?_) AllReadyH.nil
  refine step_append_lies _ (by rfl) _ _ _ (by rfl) B 44 i0 _ 5 40 Tryz.underlying36 ki kz0 kz1 kz2 rfl (by omega) _ _ _ (by rfl) (own_fr HO.out (by repeat (first | exact Fr.refl _ _ | refine Fr.alloc ?_ _ | refine Fr.drew ?_ | refine Fr.drewN ?_ _))) ⟨w4.heap.size, 0, none⟩ 1 1 [.int .i64 s.now, .int .i64 a, .int .i64 i, .int .i64 no, .int .i64 band] (by rfl) (by rfl) (fun j u hu => by first | exact cell_new _ _ _ j u hu | (rw [World.cell?_drew]; exact cell_new _ _ _ j u hu)) (by simp [Value.oneCell']) (by omega) (by unfold maxLen; omega) (by omega) (by simp; omega) (w4.heap.size + 1) (by simp) ?_; intro gg cap2 w6 hown6 hgrow hat hlt6; have f6 : Fr (fun q => (Value.slice a9 out.length c9).ownBlock = some q) w4 w6 := Fr.grown (by repeat (first | exact Fr.refl _ _ | refine Fr.alloc ?_ _ | refine Fr.drew ?_ | refine Fr.drewN ?_ _)) hgrow (fun g h _ => h); have c6 := (f6.cell (p := ⟨A.x, 9, none⟩) hxl4 hxo.out).trans f9; have z6 := (f6.frozen (p := ⟨A.x, 9, none⟩) hxl4 hxo.out).trans z9; try simp only [Act.put, List.setIfInBounds_toArray, List.set]
  refine hK.out _ _ ?hSb8 (fun hHeld2 => ?hrb8)
  case hSb8 => (try dsimp only); exact HQ2.out _ (by first | exact (Fr.refl _ _).drew | exact hHeld.2.2.2.2.2 | exact Fr.alloc hHeld.2.2.2.2.2 _ | exact Fr.grown hHeld.2.2.2.2.2 hgrow (fun g h _ => .inr h) | exact Fr.setCell hHeld.2.2.2.2.2 (p := ⟨A.x, 9, none⟩) (.inl rfl) _)
  clear hK K hHeld
  have hHeld := hHeld2
  clear hHeld2
  try simp only [Act.put, List.setIfInBounds_toArray, List.set]
  refine wtk (i := 8) ?_
  try simp only [Act.put, List.setIfInBounds_toArray, List.set]
  refine wtk (i := 9) ?_
  try simp only [Act.put, List.setIfInBounds_toArray, List.set]
  refine wpAnyH_ready (rs := [10]) (by kernel_rfl) (by simp) ?_
  refine arc (fun K hK => ?_) AllReadyH.nil
  go_simp
  refine hK.out _ _ ?hSb11 (fun hHeld2 => ?hrb11)
  case hSb11 => (try dsimp only); exact HQ2.out _ (by first | exact (Fr.refl _ _).drew | exact hHeld.2.2.2.2.2 | exact Fr.alloc hHeld.2.2.2.2.2 _ | exact Fr.grown hHeld.2.2.2.2.2 hgrow (fun g h _ => .inr h) | exact Fr.setCell hHeld.2.2.2.2.2 (p := ⟨A.x, 9, none⟩) (.inl rfl) _)
  clear hK K hHeld
  have hHeld := hHeld2
  clear hHeld2
  try simp only [Act.put, List.setIfInBounds_toArray, List.set]
  refine wpAnyH_done (by kernel_rfl) ?_ _
  obtain ⟨col', hXW, hc1, hc2⟩ := HW4.out.more (e := ⟨s.now, a, i, no, band⟩) f6 hown6 (hat.imp id (fun e => by rw [e]; omega)) hlt6
  clear hHeld hown6 hgrow c6 z6 f9A hat
  go_wp2_with fail
  go_end0
  refine ⟨rfl, col', _, hXW, HR4.out.trans ⟨((f6.mono (T := fun k => col k ≠ 0) (fun k _ e => by rw [HW4.out.c.o k e]; omega)).setCell (p := ⟨A.x, 9, none⟩) (by show col A.x ≠ 0; rw [HW4.out.c.x]; omega) _), hc2⟩⟩
 refine arc (fun K hK => ?_) ?_
 ·skip
  go_simp
  refine hK.out _ _ ?hSb12 (fun hHeld2 => ?hrb12)
  case hSb12 => (try dsimp only); exact HQ2.out _ (by first | exact (Fr.refl _ _).drew | exact hHeld.2.2.2.2.2 | exact Fr.alloc hHeld.2.2.2.2.2 _ | exact Fr.grown hHeld.2.2.2.2.2 hgrow (fun g h _ => .inr h) | exact Fr.setCell hHeld.2.2.2.2.2 (p := ⟨A.x, 9, none⟩) (.inl rfl) _)
  clear hK K hHeld
  have hHeld := hHeld2
  clear hHeld2
  try simp only [Act.put, List.setIfInBounds_toArray, List.set]
  refine wpAnyH_ready (rs := [4]) (by kernel_rfl) (by simp) ?_
  refine arc (fun K hK => ?_) AllReadyH.nil
  go_simp
  refine hK.out _ _ ?hSb13 (fun hHeld2 => ?hrb13)
  case hSb13 => (try dsimp only); exact HQ2.out _ (by first | exact (Fr.refl _ _).drew | exact hHeld.2.2.2.2.2 | exact Fr.alloc hHeld.2.2.2.2.2 _ | exact Fr.grown hHeld.2.2.2.2.2 hgrow (fun g h _ => .inr h) | exact Fr.setCell hHeld.2.2.2.2.2 (p := ⟨A.x, 9, none⟩) (.inl rfl) _)
  clear hK K hHeld
  have hHeld := hHeld2
  clear hHeld2
  try simp only [Act.put, List.setIfInBounds_toArray, List.set]
  refine wpAnyH_ready (rs := [7]) (by kernel_rfl) (by simp) ?_
  refine arc (fun K hK => ?_) AllReadyH.nil
  refine step_append_lies _ (by rfl) _ _ _ (by rfl) B 44 i0 _ 5 40 Tryz.underlying36 ki kz0 kz1 kz2 rfl (by omega) _ _ _ (by rfl) (own_fr HO.out (by repeat (first | exact Fr.refl _ _ | refine Fr.alloc ?_ _ | refine Fr.drew ?_ | refine Fr.drewN ?_ _))) ⟨w4.heap.size, 0, none⟩ 1 1 [.int .i64 s.now, .int .i64 a, .int .i64 i, .int .i64 no, .int .i64 band] (by rfl) (by rfl) (fun j u hu => by first | exact cell_new _ _ _ j u hu | (rw [World.cell?_drew]; exact cell_new _ _ _ j u hu)) (by simp [Value.oneCell']) (by omega) (by unfold maxLen; omega) (by omega) (by simp; omega) (w4.heap.size + 1) (by simp) ?_; intro gg cap2 w6 hown6 hgrow hat hlt6; have f6 : Fr (fun q => (Value.slice a9 out.length c9).ownBlock = some q) w4 w6 := Fr.grown (by repeat (first | exact Fr.refl _ _ | refine Fr.alloc ?_ _ | refine Fr.drew ?_ | refine Fr.drewN ?_ _)) hgrow (fun g h _ => h); have c6 := (f6.cell (p := ⟨A.x, 9, none⟩) hxl4 hxo.out).trans f9; have z6 := (f6.frozen (p := ⟨A.x, 9, none⟩) hxl4 hxo.out).trans z9; try simp only [Act.put, List.setIfInBounds_toArray, List.set]
  refine hK.out _ _ ?hSb14 (fun hHeld2 => ?hrb14)
  case hSb14 => (try dsimp only); exact HQ2.out _ (by first | exact (Fr.refl _ _).drew | exact hHeld.2.2.2.2.2 | exact Fr.alloc hHeld.2.2.2.2.2 _ | exact Fr.grown hHeld.2.2.2.2.2 hgrow (fun g h _ => .inr h) | exact Fr.setCell hHeld.2.2.2.2.2 (p := ⟨A.x, 9, none⟩) (.inl rfl) _)
  clear hK K hHeld
  have hHeld := hHeld2
  clear hHeld2
  try simp only [Act.put, List.setIfInBounds_toArray, List.set]
  refine wtk (i := 8) ?_
  try simp only [Act.put, List.setIfInBounds_toArray, List.set]
  refine wtk (i := 9) ?_
  try simp only [Act.put, List.setIfInBounds_toArray, List.set]
  refine wpAnyH_ready (rs := [10]) (by kernel_rfl) (by simp) ?_
  refine arc (fun K hK => ?_) AllReadyH.nil
  go_simp
  refine hK.out _ _ ?hSb17 (fun hHeld2 => ?hrb17)
  case hSb17 => (try dsimp only); exact HQ2.out _ (by first | exact (Fr.refl _ _).drew | exact hHeld.2.2.2.2.2 | exact Fr.alloc hHeld.2.2.2.2.2 _ | exact Fr.grown hHeld.2.2.2.2.2 hgrow (fun g h _ => .inr h) | exact Fr.setCell hHeld.2.2.2.2.2 (p := ⟨A.x, 9, none⟩) (.inl rfl) _)
  clear hK K hHeld
  have hHeld := hHeld2
  clear hHeld2
  try simp only [Act.put, List.setIfInBounds_toArray, List.set]
  refine wpAnyH_done (by kernel_rfl) ?_ _
  obtain ⟨col', hXW, hc1, hc2⟩ := HW4.out.more (e := ⟨s.now, a, i, no, band⟩) f6 hown6 (hat.imp id (fun e => by rw [e]; omega)) hlt6
  clear hHeld hown6 hgrow c6 z6 f9A hat
  go_wp2_with fail
  go_end0
  refine ⟨rfl, col', _, hXW, HR4.out.trans ⟨((f6.mono (T := fun k => col k ≠ 0) (fun k _ e => by rw [HW4.out.c.o k e]; omega)).setCell (p := ⟨A.x, 9, none⟩) (by show col A.x ≠ 0; rw [HW4.out.c.x]; omega) _), hc2⟩⟩
 exact AllReadyH.nil
end
end
section
open Go.RowKit
section
variable {B n : Nat} {A : XFix} {bu : Int} {tk : Nat → Tk} {w w' : World} {s : St} {out : List Ev} {Mx : Nat} {col : Nat → Nat} {F : Nat → Prop} {hm : List Q} {so : Value} {jbk : Nat → Nat} {gs : List Gate} {kj : Nat → Option Jb} {T : Nat → Prop}
set_option maxHeartbeats 4000000 in
set_option maxRecDepth 100000 in
theorem tell_is (h : XW B A bu n tk w s out Mx col F hm so jbk gs kj) (a i : Nat) (J : Jb) (h1 : 1 ≤ a) (h2 : a < 12) (hi : i < n) (hJ : s.job i = some J) (ho : out.length ≤ 100000000) :
  Calls Tryz.prog 69 #[.pointer (some ⟨A.x, 0, none⟩), .int .i64 a, .int .i64 i] w fun e w' => e = .returned (.tuple #[]) ∧
   ∃ col' so', XW B A bu n tk w' s (out ++ [tell tk s a i J]) Mx col' F hm so' jbk gs kj ∧ XR col w col' w' := by
 have hn16 := h.c.n16
 have hi0 : (0 : Int) ≤ (i : Int) := by omega
 have hiI : (i : Int) < (n : Int) := by omega
 have HF : Hid (∀ (W : World) (o : List Ev) (c : Nat → Nat) (v : Value), XW B A bu n tk W s o Mx c F hm v jbk gs kj →
   W.cell? ⟨A.x, 3, none⟩ = some (.slice (some ⟨A.jb, 0, none⟩) n A.jc) ∧ W.cell? ⟨A.jb, i, none⟩ = some (.pointer (some ⟨jbk i, 0, none⟩)) ∧ W.cell? ⟨jbk i, 1, none⟩ = some (.int .i64 J.no) ∧ W.rangeAt (jbk i) 0 (jbc i (tk i) J)) := fun W o c v h => by
  have hr := h.jb.row i hi
  rw [hJ] at hr
  have hg := h.jb.rg i J hi hJ
  exact ⟨h.f.f3, hr, by have := hg 1 _ rfl; simpa using this, hg⟩
 have HB := Lib.hid fun W => band_any i (tk i) J W
 have H := Lib.hid h
 clear h hJ
 unfold jbv at HB
 go_enter Tryz.func69, Tryz.ntmps69
 go_wp2_with fail
 have HWd := H.out.keep (T := fun _ => False) ((Fr.refl _ w).drew) (fun _ h => h.elim)
 refine wp_region_held_drew (S := (fun w' => w'.cell? ⟨A.x, 3, none⟩ = some (.slice (some ⟨A.jb, 0, none⟩) n A.jc) ∧ w'.cell? ⟨A.jb, i, none⟩ = some (.pointer (some ⟨jbk i, 0, none⟩)) ∧ w'.cell? ⟨jbk i, 1, none⟩ = some (.int .i64 J.no) ∧ w'.rangeAt (jbk i) 0 (jbc i (tk i) J))) (by kernel_rfl) ?hS0 (fun hHeld => ?_)
 case hS0 => (try dsimp only); exact HF.out _ _ _ _ HWd
 refine wtk (i := 0) ?_
 try simp only [Act.put, List.setIfInBounds_toArray, List.set]
 refine wtk (i := 1) ?_
 try simp only [Act.put, List.setIfInBounds_toArray, List.set]
 refine wtk (i := 2) ?_
 try simp only [Act.put, List.setIfInBounds_toArray, List.set]
 refine wtk (i := 3) ?_
 try simp only [Act.put, List.setIfInBounds_toArray, List.set]
 refine wtk (i := 4) ?_
 try simp only [Act.put, List.setIfInBounds_toArray, List.set]
 refine wtk (i := 5) ?_
 try simp only [Act.put, List.setIfInBounds_toArray, List.set]
 refine wtk (i := 6) ?_
 try simp only [Act.put, List.setIfInBounds_toArray, List.set]
 refine wtk (i := 7) ?_
 try simp only [Act.put, List.setIfInBounds_toArray, List.set]
 refine wtk (i := 8) ?_
 try simp only [Act.put, List.setIfInBounds_toArray, List.set]
 refine wtk (i := 9) ?_
 try simp only [Act.put, List.setIfInBounds_toArray, List.set]
 refine wtk (i := 10) ?_
 try simp only [Act.put, List.setIfInBounds_toArray, List.set]
 refine wtk (i := 11) ?_
 try simp only [Act.put, List.setIfInBounds_toArray, List.set]
 refine wtk (i := 12) ?_
 try simp only [Act.put, List.setIfInBounds_toArray, List.set]
 refine wtk (i := 13) ?_
 try simp only [Act.put, List.setIfInBounds_toArray, List.set]
 refine wtk (i := 14) ?_
 try simp only [Act.put, List.setIfInBounds_toArray, List.set]
 refine wtk (i := 15) ?_
 try simp only [Act.put, List.setIfInBounds_toArray, List.set]
 refine wtk (i := 16) ?_
 try simp only [Act.put, List.setIfInBounds_toArray, List.set]
 refine wtk (i := 17) ?_
 try simp only [Act.put, List.setIfInBounds_toArray, List.set]
 refine wtk (i := 18) ?_
 try simp only [Act.put, List.setIfInBounds_toArray, List.set]
 refine wtk (i := 19) ?_
 try simp only [Act.put, List.setIfInBounds_toArray, List.set]
 refine wtk (i := 20) ?_
 try simp only [Act.put, List.setIfInBounds_toArray, List.set]
 refine wpAnyH_take (i := 21) (oi := { dst := some 27, op := Op.load 59 (Operand.tmp 26), type := 59, pos := "exec.go:104", after := #[{ on := 20, ground := Ground.data }], guard := none }) rfl (by kernel_rfl) (by kernel_rfl) (by kernel_rfl) (fun _ _ _ h => h) (yieldsIf_load_mid (by rfl) 59 _ rfl (jbk i) 0 rfl (jbc i (tk i) J) _ ?hS22 Tryz.underlying59 rfl Tryz.size59) (by assumption) ?_
 case hS22 => (intro wS hSw; (try dsimp only at hSw); exact hSw.2.2.2)
 try simp only [Act.put, List.setIfInBounds_toArray, List.set]
 refine wpAnyH_ready (rs := [22]) (by kernel_rfl) (by simp) ?_
 refine arc (fun K hK => ?_) AllReadyH.nil
 unfold jbc
 go_simp; go_at_call 105; refine Calls.mono (HB.out _) ?_; rintro e w5 ⟨rfl, hb5⟩; have HW5 := HWd.below hb5
 refine hK.out _ _ ?hS23 (fun hHeld2 => ?hr23)
 case hS23 => (try dsimp only); exact HF.out _ _ _ _ HW5
 clear hK K hHeld
 have hHeld := hHeld2
 clear hHeld2
 try simp only [Act.put, List.setIfInBounds_toArray, List.set]
 refine wpAnyH_ready (rs := [23]) (by kernel_rfl) (by simp) ?_
 refine arc (fun K hK => ?_) AllReadyH.nil
 go_simp; go_at_call 64; refine Calls.mono (say_is HW5 a i J.no (bandJ (tk i) J) h1 h2 (by omega) ho) ?_; rintro e w6 ⟨rfl, col6, so6, HW6, HR6⟩
 refine hK.out _ _ ?hS24 (fun hHeld2 => ?hr24)
 case hS24 => (try dsimp only); exact HF.out _ _ _ _ HW6
 clear hK K hHeld
 have hHeld := hHeld2
 clear hHeld2
 try simp only [Act.put, List.setIfInBounds_toArray, List.set]
 refine wpAnyH_done (by kernel_rfl) ?_ _
 go_wp2_with fail
 go_end0
 exact ⟨rfl, col6, so6, HW6, (XR.trans (XR.of_fr (T := fun _ => False) ((Fr.refl _ w).drew) (fun _ h => h.elim)) (XR.of_below hb5)).trans HR6⟩
end
end
end Go.Proofs.YtnoahekcemfmcaaGreatDoor
