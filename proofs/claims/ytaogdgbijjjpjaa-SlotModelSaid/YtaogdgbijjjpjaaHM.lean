/- THE HEAP's CONTRACTS, told of one list in order; awake. -/
import Derived.Test.YtaogdgbijjjpjaaHeapR
namespace Go.Proofs.Ytaogdgbijjjpjaa
open Go.RowKit
set_option linter.unusedVariables false

/-- The heap at p holds the keys m, in order; F: its blocks. -/
def HH (B : Nat) (w : World) (p : Nat) (F : Nat → Prop) (room : Nat) (m : List Q) : Prop := ∃ l, HA 23 B w p F l room ∧ HRep l m ∧ m.length ≤ room ∧ room ≤ 1024
section
variable {B p room : Nat} {F : Nat → Prop} {m : List Q} {w w' : World}
theorem HH.keep {T : Nat → Prop} (h : HH B w p F room m) (hf : Fr T w w') (hT : ∀ k, F k → ¬ T k) : HH B w' p F room m := by
  obtain ⟨l, h1, r⟩ := h
  exact ⟨l, h1.keep hf hT, r⟩
theorem HH.below (h : HH B w p F room m) (hb : Below w.heap.size w w') : HH B w' p F room m := h.keep (Fr.of_below (S := fun _ => False) hb) (by simp)
theorem HH.flt (h : HH B w p F room m) (k : Nat) (hk : F k) : k < w.heap.size ∧ B ≤ k := by obtain ⟨l, h1, r⟩ := h; exact h1.flt k hk
theorem HH.len (h : HH B w p F room m) : m.length ≤ room ∧ room ≤ 1024 := by obtain ⟨l, h1, r, a, b⟩ := h; exact ⟨a, b⟩
theorem HH.srt (h : HH B w p F room m) : SrtK m := by obtain ⟨l, h1, r, a, b⟩ := h; exact r.srt
theorem HH.ids (h : HH B w p F room m) : (m.map (·.2.2.2)).Nodup := by obtain ⟨l, h1, r, a, b⟩ := h; exact r.ids

theorem hnew_m (B room : Nat) (w : World) (h1 : 1 ≤ room) (h2 : room ≤ 1024) (hB : B ≤ w.heap.size) :
    Calls Try.prog 17 #[.int .i64 room] w fun e w' => (∃ p F, e = .returned (.tuple #[.pointer (some ⟨p, 0, none⟩), .int .i64 0]) ∧ HH B w' p F room [] ∧ (∀ k, F k → w.heap.size ≤ k)) ∧ Below w.heap.size w w' :=
  (hnew_good B room w h1 h2 hB).mono fun _ _ ⟨⟨p, F, he, hW, hF⟩, hb⟩ => ⟨⟨p, F, he, ⟨_, hW, HRep.nil, Nat.zero_le _, h2⟩, hF⟩, hb⟩

theorem push_m (h : HH B w p F room m) (hB : B ≤ w.heap.size) (k : Q) :
    Calls Try.prog 18 #[.pointer (some ⟨p, 0, none⟩), qv k] w fun e w' => e = .returned (.int .i64 (pushM room m k).1) ∧ ∃ F', HH B w' p F' room (pushM room m k).2 ∧ (∀ j, F' j → F j ∨ w.heap.size ≤ j) ∧ Fr F w w' := by
  obtain ⟨l, hA, hR, hl, h2⟩ := h
  refine (push_any hA hB k (by rw [hR.len]; omega)).mono ?_
  rintro e w' ⟨r, hr, rfl, F', hA', hF, hf⟩
  obtain ⟨a, b, c⟩ := hR.push hr hl
  exact ⟨by rw [a], F', ⟨_, hA', b, c, h2⟩, hF, hf⟩

theorem peek_m (h : HH B w p F room m) :
    Calls Try.prog 28 #[.pointer (some ⟨p, 0, none⟩)] w fun e w' => e = .returned (.tuple #[qv (peekM m).1, .bool (peekM m).2]) ∧ Below w.heap.size w w' := by
  obtain ⟨l, hA, hR, hl, h2⟩ := h
  have := peek_any hA
  rw [hR.peek] at this
  exact this

theorem pop_m (h : HH B w p F room m) :
    Calls Try.prog 26 #[.pointer (some ⟨p, 0, none⟩)] w fun e w' => e = .returned (.tuple #[qv (peekM m).1, .bool (peekM m).2]) ∧ HH B w' p F room m.tail ∧ Fr F w w' := by
  obtain ⟨l, hA, hR, hl, h2⟩ := h
  obtain ⟨a, b, c⟩ := hR.pop
  refine (pop_any hA (by rw [hR.len]; omega)).mono ?_
  rintro e w' ⟨rfl, hA', hf⟩
  exact ⟨by rw [a, b], ⟨_, hA', c, by rw [List.length_tail]; omega, h2⟩, hf⟩

theorem remove_m (h : HH B w p F room m) (id : Int) :
    Calls Try.prog 23 #[.pointer (some ⟨p, 0, none⟩), .int .i64 id] w fun e w' => e = .returned (.bool (m.any fun x => x.2.2.2 == id)) ∧ HH B w' p F room (m.filter fun x => !(x.2.2.2 == id)) ∧ Fr F w w' := by
  obtain ⟨l, hA, hR, hl, h2⟩ := h
  refine (remove_any hA id (by rw [hR.len]; omega)).mono ?_
  rintro e w' ⟨r, hr, rfl, hA', hf⟩
  exact ⟨by rw [hR.idx hr], ⟨_, hA', hR.rem hr, Nat.le_trans (List.length_filter_le _ _) hl, h2⟩, hf⟩

theorem filter_two_len (p : Q → Bool) (m : List Q) : (m.filter p).length + (m.filter fun d => !p d).length = m.length := by
  induction m with
  | nil => rfl
  | cons x m ih => by_cases h : p x = true <;> simp [h] <;> omega
def chgM (m : List Q) (k : Q) : List Q := if (m.any fun x => x.2.2.2 == k.2.2.2) = true then insK k (m.filter fun x => !(x.2.2.2 == k.2.2.2)) else m
theorem chgM_len (m : List Q) (k : Q) : (chgM m k).length ≤ m.length := by
  unfold chgM
  split
  · rename_i h
    obtain ⟨d, hd, hp⟩ := List.any_eq_true.1 h
    rw [(insK_perm _ _).length_eq, List.length_cons]
    have h1 : (m.filter fun x => !(x.2.2.2 == k.2.2.2)).length + (m.filter fun x => x.2.2.2 == k.2.2.2).length = m.length := by
      have := filter_two_len (fun x : Q => x.2.2.2 == k.2.2.2) m
      omega
    have h2 : 0 < (m.filter fun x => x.2.2.2 == k.2.2.2).length := List.length_pos_of_mem (List.mem_filter.2 ⟨hd, hp⟩)
    omega
  · omega

theorem change_m (h : HH B w p F room m) (k : Q) :
    Calls Try.prog 21 #[.pointer (some ⟨p, 0, none⟩), qv k] w fun e w' => e = .returned (.bool (m.any fun x => x.2.2.2 == k.2.2.2)) ∧ HH B w' p F room (chgM m k) ∧ Fr F w w' := by
  obtain ⟨l, hA, hR, hl, h2⟩ := h
  refine (change_any hA k (by rw [hR.len]; omega)).mono ?_
  rintro e w' ⟨r, hr, rfl, hA', hf⟩
  exact ⟨by rw [hR.idx hr], ⟨_, hA', hR.chg hr, Nat.le_trans (chgM_len m k) hl, h2⟩, hf⟩

theorem hlen_m (h : HH B w p F room m) : Calls Try.prog 22 #[.pointer (some ⟨p, 0, none⟩)] w fun e w' => e = .returned (.int .i64 m.length) ∧ w = w' := by
  obtain ⟨l, hA, hR, hl, h2⟩ := h
  have := hlen_any hA
  rw [hR.len] at this
  exact this

theorem sorted_m (h : HH B w p F room m) :
    Calls Try.prog 19 #[.pointer (some ⟨p, 0, none⟩)] w fun e w' => ∃ (a : Option Addr) (c : Nat), e = .returned (.slice a m.length c) ∧ w'.ownsRow w.heap.size 23 4 (.slice a m.length c) m.length (m.flatMap qc) ∧ Below w.heap.size w w' := by
  obtain ⟨l, hA, hR, hl, h2⟩ := h
  refine (sorted_any hA (by rw [hR.len]; omega)).mono ?_
  rintro e w' ⟨v, l', rfl, hp, hs, hown, hb⟩
  have e2 : l' = m := srt_eqK (hp.trans hR.perm) hs hR.srt
  subst e2
  obtain ⟨a, c, rfl⟩ := ownsRow_form hown
  exact ⟨a, c, rfl, hown, hb⟩
end

theorem fr_below {w0 w w' : World} {F : Nat → Prop} (hb : Below w0.heap.size w0 w) (hf : Fr F w w') (hF : ∀ k, F k → w0.heap.size ≤ k) : Below w0.heap.size w0 w' :=
  hb.trans (hf.below (fun k _ hk => hF k hk) hb.size)

/-- A heap that was made since w0. -/
structure HO (w0 w : World) (p room : Nat) (F : Nat → Prop) (m : List Q) : Prop where
  a : HH w0.heap.size w p F room m
  bel : Below w0.heap.size w0 w
section
variable {p room : Nat} {F : Nat → Prop} {m : List Q} {w0 w w' : World}
theorem HO.turn {F' : Nat → Prop} {m' : List Q} (h : HO w0 w p room F m) (h' : HH w0.heap.size w' p F' room m') (hf : Fr F w w') : HO w0 w' p room F' m' := ⟨h', fr_below h.bel hf fun k hk => (h.a.flt k hk).2⟩
theorem HO.below (h : HO w0 w p room F m) (hb : Below w.heap.size w w') : HO w0 w' p room F m := ⟨h.a.below hb, h.bel.trans (hb.mono h.bel.size)⟩
theorem HO.new (hb : Below w0.heap.size w0 w) (room : Nat) (h1 : 1 ≤ room) (h2 : room ≤ 1024) :
    Calls Try.prog 17 #[.int .i64 room] w fun e w' => ∃ p F, e = .returned (.tuple #[.pointer (some ⟨p, 0, none⟩), .int .i64 0]) ∧ HO w0 w' p room F [] ∧ (∀ k, F k → w.heap.size ≤ k) ∧ Below w.heap.size w w' :=
  (hnew_m w0.heap.size room w h1 h2 hb.size).mono fun _ _ ⟨⟨p, F, he, hW, hF⟩, hb'⟩ => ⟨p, F, he, ⟨hW, hb.trans (hb'.mono hb.size)⟩, hF, hb'⟩
theorem HO.push (h : HO w0 w p room F m) {a b c d r : Int} {m' : List Q} (hE : pushM room m (a, b, c, d) = (r, m')) :
    Calls Try.prog 18 #[.pointer (some ⟨p, 0, none⟩), .agg #[.int .i64 a, .int .i64 b, .int .i64 c, .int .i64 d]] w fun e w' => e = .returned (.int .i64 r) ∧ ∃ F', HO w0 w' p room F' m' ∧ (∀ j, F' j → F j ∨ w.heap.size ≤ j) ∧ Fr F w w' := by
  have := push_m h.a h.bel.size (a, b, c, d)
  rw [hE] at this
  refine Calls.mono this ?_
  rintro e w' ⟨rfl, F', hH, hF, hf⟩
  exact ⟨rfl, F', h.turn hH hf, hF, hf⟩
theorem HO.change (h : HO w0 w p room F m) {a b c d : Int} {r : Bool} {m' : List Q} (hr : (m.any fun x => x.2.2.2 == d) = r) (hE : chgM m (a, b, c, d) = m') :
    Calls Try.prog 21 #[.pointer (some ⟨p, 0, none⟩), .agg #[.int .i64 a, .int .i64 b, .int .i64 c, .int .i64 d]] w fun e w' => e = .returned (.bool r) ∧ HO w0 w' p room F m' ∧ Fr F w w' := by
  have := change_m h.a (a, b, c, d)
  rw [hE] at this
  refine Calls.mono this ?_
  rintro e w' ⟨rfl, hH, hf⟩
  exact ⟨by rw [← hr], h.turn hH hf, hf⟩
theorem HO.remove (h : HO w0 w p room F m) {d : Int} {r : Bool} {m' : List Q} (hr : (m.any fun x => x.2.2.2 == d) = r) (hE : (m.filter fun x => !(x.2.2.2 == d)) = m') :
    Calls Try.prog 23 #[.pointer (some ⟨p, 0, none⟩), .int .i64 d] w fun e w' => e = .returned (.bool r) ∧ HO w0 w' p room F m' ∧ Fr F w w' := by
  have := remove_m h.a d
  rw [hE, hr] at this
  exact Calls.mono this fun _ _ ⟨he, hH, hf⟩ => ⟨he, h.turn hH hf, hf⟩
end

set_option maxHeartbeats 2000000 in
set_option maxRecDepth 100000 in
theorem hawake_any (w : World) : Calls Try.prog 14 #[] w fun e w' => e = .returned (.bool true) ∧ Below w.heap.size w w' := by
  go_enter Try.func14, Try.ntmps14
  go_wp2_with fail
  refine (HO.new (w0 := w) (Below.refl _ _) 2 (by omega) (by omega)).mono ?_
  rintro e w1 ⟨p, F1, rfl, h1, _, _⟩
  go_wp2_with fail
  refine (h1.push (r := 0) (m' := [(0, 5, 0, 1)]) (by decide)).mono ?_
  rintro e w2 ⟨rfl, F2, h2, _, _⟩
  go_wp2_with fail
  refine (h2.push (r := 0) (m' := [(0, 3, 0, 2), (0, 5, 0, 1)]) (by decide)).mono ?_
  rintro e w3 ⟨rfl, F3, h3, _, _⟩
  go_wp2_with fail
  refine (h3.push (r := 7) (m' := [(0, 3, 0, 2), (0, 5, 0, 1)]) (by decide)).mono ?_
  rintro e w4 ⟨rfl, F4, h4, _, _⟩
  go_wp2_with fail
  refine (h4.push (r := 3) (m' := [(0, 3, 0, 2), (0, 5, 0, 1)]) (by decide)).mono ?_
  rintro e w5 ⟨rfl, F5, h5, _, _⟩
  have P := peek_m h5.a
  unfold peekM qv at P
  simp only at P
  have HP := Lib.hid P
  have H5 := Lib.hid h5
  clear P h1 h2 h3 h4 h5
  go_wp2_with fail
  refine HP.out.mono ?_
  rintro e w6 ⟨rfl, hb6⟩
  have h6 := H5.out.below (hb6.alloc hb6.size (.cells #[.int .i64 0, .int .i64 3, .int .i64 0, .int .i64 2] 23))
  have hbx : ¬ F5 w6.heap.size := fun hk => by have := (H5.out.below hb6).a.flt _ hk; omega
  have hlx : w6.heap.size < (w6.alloc (.cells #[.int .i64 0, .int .i64 3, .int .i64 0, .int .i64 2] 23)).heap.size := by simp
  have b0 := cell_newb w6 #[.int .i64 0, .int .i64 3, .int .i64 0, .int .i64 2] 23 _ 0 _ rfl rfl
  have b1 := cell_newb w6 #[.int .i64 0, .int .i64 3, .int .i64 0, .int .i64 2] 23 _ 1 _ rfl rfl
  have b2 := cell_newb w6 #[.int .i64 0, .int .i64 3, .int .i64 0, .int .i64 2] 23 _ 2 _ rfl rfl
  have b3 := cell_newb w6 #[.int .i64 0, .int .i64 3, .int .i64 0, .int .i64 2] 23 _ 3 _ rfl rfl
  have C := Lib.hid (h6.change (a := 0) (b := 1) (c := 0) (d := 1) (r := true) (m' := [(0, 1, 0, 1), (0, 3, 0, 2)]) (by decide) (by decide))
  clear h6 HP H5 hb6
  go_wp2_with fail
  generalize w6.alloc (.cells #[.int .i64 0, .int .i64 3, .int .i64 0, .int .i64 2] 23) = w7 at *
  generalize w6.heap.size = bx at *
  refine C.out.mono ?_
  rintro e w8 ⟨rfl, h8, hf8⟩
  have c0 := (hf8.cell (p := ⟨bx, 0, none⟩) hlx hbx).trans b0
  have c1 := (hf8.cell (p := ⟨bx, 1, none⟩) hlx hbx).trans b1
  have c2 := (hf8.cell (p := ⟨bx, 2, none⟩) hlx hbx).trans b2
  have c3 := (hf8.cell (p := ⟨bx, 3, none⟩) hlx hbx).trans b3
  have hl8 : bx < w8.heap.size := Nat.lt_of_lt_of_le hlx hf8.size
  have R := Lib.hid (h8.remove (d := 2) (r := true) (m' := [(0, 1, 0, 1)]) (by decide) (by decide))
  clear C b0 b1 b2 b3 hf8 h8
  go_wp2_with fail
  refine R.out.mono ?_
  rintro e w9 ⟨rfl, h9, hf9⟩
  have d0 := (hf9.cell (p := ⟨bx, 0, none⟩) hl8 hbx).trans c0
  have d1 := (hf9.cell (p := ⟨bx, 1, none⟩) hl8 hbx).trans c1
  have d2 := (hf9.cell (p := ⟨bx, 2, none⟩) hl8 hbx).trans c2
  have d3 := (hf9.cell (p := ⟨bx, 3, none⟩) hl8 hbx).trans c3
  have L := Lib.hid (hlen_m h9.a)
  have H9 := Lib.hid h9
  clear R c0 c1 c2 c3 hf9 h9
  go_wp2_with fail
  refine L.out.mono ?_
  rintro e w10 ⟨rfl, rfl⟩
  go_wp2_with fail
  have CQ := Lib.hid (cmpK_any (0, 3, 0, 2) (0, 3, 0, 2) w9)
  rw [show cmpK (0, 3, 0, 2) (0, 3, 0, 2) = 0 from (cmpK_zero _ _).2 rfl] at CQ
  unfold qv at CQ
  simp only at CQ
  refine CQ.out.mono ?_
  rintro e w11 ⟨rfl, q, os, rfl⟩
  have h11 := H9.out.below (below_grow w9 q os)
  have S := Lib.hid (sorted_m h11.a)
  have Hb11 := Lib.hid h11.bel
  clear h11 CQ H9 L
  go_wp2_with fail
  refine S.out.mono ?_
  rintro e w12 ⟨a, c, rfl, _, hb12⟩
  go_wp2_with fail
  go_ret
  exact ⟨rfl, Hb11.out.trans (hb12.mono Hb11.out.size)⟩
end Go.Proofs.Ytaogdgbijjjpjaa
