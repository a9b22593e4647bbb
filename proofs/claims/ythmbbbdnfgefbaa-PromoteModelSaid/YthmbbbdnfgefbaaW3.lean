/- WALKS: New, Now, Len, Add. -/
import Derived.Test.YthmbbbdnfgefbaaSort
import Derived.Deep.RegionHeld3
import Derived.Deep.RegionLaw
namespace Go.Proofs.Ythmbbbdnfgefbaa
open Go.RowKit
set_option linter.unusedVariables false

theorem now_any (B p : Nat) (F : Nat → Prop) (S : Whl) (w : World) (h : WheelAt B w p F S) :
    Calls Try.prog 20 #[.pointer (some ⟨p, 0, none⟩)] w fun e w' => e = .returned (.int .i64 S.now) ∧ w = w' := by
  have c := h.now
  go_enter Try.func20, Try.ntmps20
  go_wp2_with fail
  go_ret
  exact ⟨rfl, rfl⟩

theorem len_any (B p : Nat) (F : Nat → Prop) (S : Whl) (w : World) (h : WheelAt B w p F S) :
    Calls Try.prog 21 #[.pointer (some ⟨p, 0, none⟩)] w fun e w' => e = .returned (.int .i64 S.n) ∧ w = w' := by
  have c := h.n
  go_enter Try.func21, Try.ntmps21
  go_wp2_with fail
  go_ret
  exact ⟨rfl, rfl⟩

theorem new_bad (room : Int) (w : World) (h : room < 1 ∨ 1024 < room) :
    Calls Try.prog 13 #[.int .i64 room] w fun e w' => e = .returned (.tuple #[.pointer none, .int .i64 1]) ∧ w = w' := by
  by_cases h1 : room < 1
  all_goals
    go_enter Try.func13, Try.ntmps13
    go_wp2_with fail
    go_ret2
    exact ⟨rfl, rfl⟩

def Whl.empty (room : Nat) : Whl := ⟨fun _ => [], 0, 0, room⟩

def wheelCells (room : Int) : Array Value := (List.replicate 64 (Value.slice none 0 0) ++ [Value.int .i64 0, Value.int .i64 0, Value.int .i64 room]).toArray

theorem wheel_place (n : Int) (i : Nat) (hi : i < 64) : (wheelCells n).toList[i]? = some (Value.slice none 0 0) := by
  show (List.replicate 64 (Value.slice none 0 0) ++ [Value.int .i64 0, Value.int .i64 0, Value.int .i64 n])[i]? = _
  rw [List.getElem?_append_left (by simpa using hi), List.getElem?_replicate_of_lt hi]

theorem zero_wheel (w : World) : (zeroValue 72).run Try.prog w = .ok (.agg (wheelCells 0)) w := by kernel_rfl
theorem size_wheel : (wheelCells 0).size = 67 := rfl
theorem set_wheel (n : Int) : (wheelCells 0).setIfInBounds 66 (.int .i64 n) = wheelCells n := rfl

set_option maxHeartbeats 1000000 in
set_option maxRecDepth 100000 in
theorem new_good (B room : Nat) (w : World) (h1 : 1 ≤ room) (h2 : room ≤ 1024) (hB : B ≤ w.heap.size) :
    Calls Try.prog 13 #[.int .i64 room] w fun e w' => (∃ p F, e = .returned (.tuple #[.pointer (some ⟨p, 0, none⟩), .int .i64 0]) ∧ WheelAt B w' p F (Whl.empty room) ∧ (∀ k, F k → w.heap.size ≤ k)) ∧ Below w.heap.size w w' := by
  have hz1 := zero_wheel
  have hz2 := size_wheel
  have hz3 := set_wheel
  go_enter Try.func13, Try.ntmps13
  go_wp2_with fail
  go_ret2
  have hat : ∀ (j : Nat) (u : Value), (wheelCells room).toList[j]? = some u → (w.alloc (.cells (wheelCells room) 72)).cell? ⟨w.heap.size, j, none⟩ = some u := fun j u h => cell_newb w _ 72 _ j u rfl h
  have hfz : ∀ o, (w.alloc (.cells (wheelCells room) 72)).frozen? ⟨w.heap.size, o, none⟩ = false := fun o => by simp
  refine ⟨⟨w.heap.size, (· = w.heap.size), rfl, ?_, fun k hk => by omega⟩, (Below.refl _ _).alloc (Nat.le_refl _) _⟩
  exact ⟨by simp, rfl, fun k hk => by subst hk; simp [hB], hat 64 _ rfl, hat 65 _ rfl, hat 66 _ rfl, hfz, fun _ => .slice none 0 0, fun i hi => ⟨hat i _ (wheel_place _ i hi), World.ownsRow_nil _ _ _ _, by simp [Value.ownBlock]⟩, by simp [Value.ownBlock]⟩

/-- What an Add comes to. -/
def Whl.add (S : Whl) (d : Int × Int) : Int × Whl :=
  if d.1 < S.now ∨ 1099511627776 < d.1 then (1, S)
  else if S.has d.2 then (7, S)
  else if S.n = S.room then (3, S)
  else (0, { S.put (d.1.toNat % 64) (S.b (d.1.toNat % 64) ++ [d]) with n := S.n + 1 })

theorem Try.info30 : (Try.prog.info? 30).map (fun i => (i.zero, i.size, i.bytes)) = some (some (.agg #[.int .i64 0, .int .i64 0]), 2, 16) := by kernel_rfl

set_option maxHeartbeats 2000000 in
set_option maxRecDepth 100000 in
theorem add_any (B p : Nat) (F : Nat → Prop) (S : Whl) (d : Int × Int) (w : World) (h : WheelAt B w p F S) (hB : B ≤ w.heap.size) (hl : ∀ i, i < 64 → (S.b i).length ≤ 1024) (hn : S.n ≤ 1024) (h0 : 0 ≤ S.now) :
    Calls Try.prog 15 #[.pointer (some ⟨p, 0, none⟩), .agg #[.int .i64 d.1, .int .i64 d.2]] w fun e w' => e = .returned (.int .i64 (S.add d).1) ∧
      ∃ F', WheelAt B w' p F' (S.add d).2 ∧ (∀ k, F' k → F k ∨ w.heap.size ≤ k) ∧ Fr F w w' := by
  have hw1 : WheelAt B (w.alloc (.cells #[.int .i64 d.1, .int .i64 d.2] 30)) p F S := h.below ((Below.refl _ _).alloc (Nat.le_refl _) _)
  have c0 := cell_newb w #[.int .i64 d.1, .int .i64 d.2] 30 _ 0 _ rfl rfl
  have c1 := cell_newb w #[.int .i64 d.1, .int .i64 d.2] 30 _ 1 _ rfl rfl
  have hf1 : Fr F w (w.alloc (.cells #[.int .i64 d.1, .int .i64 d.2] 30)) := (Fr.refl _ _).alloc _
  have hs1 : w.heap.size < (w.alloc (.cells #[.int .i64 d.1, .int .i64 d.2] 30)).heap.size := by simp
  by_cases hbad : d.1 < S.now ∨ 1099511627776 < d.1
  · have E : Hid (S.add d = (1, S)) := by show _ = _; unfold Whl.add; rw [if_pos hbad]
    have cn := hw1.now
    by_cases hb1 : d.1 < S.now
    · go_enter Try.func15, Try.ntmps15
      go_wp2_with fail
      go_quiet (fail)
      go_wp2_with fail
      go_ret
      rw [E.out]
      exact ⟨rfl, F, hw1.drewN _, fun k hk => .inl hk, hf1.drewN _⟩
    · have hb2 : 1099511627776 < d.1 := by omega
      have hb1' : S.now ≤ d.1 := by omega
      go_enter Try.func15, Try.ntmps15
      go_wp2_with fail
      go_quiet (fail)
      go_wp2_with fail
      go_ret
      rw [E.out]
      exact ⟨rfl, F, hw1.drewN _, fun k hk => .inl hk, hf1.drewN _⟩
  · have hb1 : S.now ≤ d.1 := by omega
    have hb2 : d.1 ≤ 1099511627776 := by omega
    have cn := hw1.now
    go_enter Try.func15, Try.ntmps15
    go_wp2_with fail
    go_quiet (fail)
    go_wp2_with fail
    refine (has_any B p F S d.2 _ (hw1.drewN _) (by simp; omega) hl).mono ?_
    rintro e w3 ⟨rfl, hb3⟩
    have hf3 : Fr F w w3 := (hf1.drewN _).trans (Fr.of_below (S := F) hb3) (fun _ _ h => h) (fun _ _ h => h)
    have hW3 : WheelAt B w3 p F S := (hw1.drewN _).below hb3
    have d0 : w3.cell? ⟨w.heap.size, 0, none⟩ = some (.int .i64 d.1) := by rw [hb3.cell (p := ⟨w.heap.size, 0, none⟩) hs1]; exact c0
    have d1 : w3.cell? ⟨w.heap.size, 1, none⟩ = some (.int .i64 d.2) := by rw [hb3.cell (p := ⟨w.heap.size, 1, none⟩) hs1]; exact c1
    have hs3 : w.heap.size < w3.heap.size := Nat.lt_of_lt_of_le hs1 hb3.size
    have hbn : w.heap.size ≠ p := Nat.ne_of_gt h.p1
    have hFb : ¬ F w.heap.size := fun hF => by have := (h.flt _ hF).1; omega
    clear hw1 c0 c1 hf1 hb3 hs1 cn
    generalize hbd : w.heap.size = bd at *
    by_cases hhas : S.has d.2 = true
    · have E : Hid (S.add d = (7, S)) := by show _ = _; unfold Whl.add; rw [if_neg hbad, if_pos hhas]
      rw [hhas]
      clear hhas hbad
      go_wp2_with fail
      go_ret
      rw [E.out]
      exact ⟨rfl, F, hW3, fun k hk => .inl hk, hf3⟩
    · have hhas' : S.has d.2 = false := by simpa using hhas
      rw [hhas']
      have cn := hW3.n
      have cr := hW3.room
      by_cases hfull : S.n = S.room
      · have E : Hid (S.add d = (3, S)) := by show _ = _; unfold Whl.add; rw [if_neg hbad, if_neg (by simp [hhas']), if_pos hfull]
        rw [← hfull] at cr
        clear hhas hhas' hbad hfull
        go_wp2_with fail
        go_quiet (fail)
        go_wp2_with fail
        go_ret
        rw [E.out]
        exact ⟨rfl, F, hW3.drewN _, fun k hk => .inl hk, hf3.drewN _⟩
      · obtain ⟨i, hi⟩ : ∃ i, d.1.toNat % 64 = i := ⟨_, rfl⟩
        have hi64 : i < 64 := by omega
        have hdi : d.1 % 64 = (i : Int) := by omega
        have E : Hid (S.add d = (0, { S.put i (S.b i ++ [d]) with n := S.n + 1 })) := by show _ = _; unfold Whl.add; rw [if_neg hbad, if_neg (by simp [hhas']), if_neg hfull, hi]
        have hfb : ((S.n : Int) == (S.room : Int)) = false := by simp; omega
        have hd0 : 0 ≤ d.1 := by omega
        clear hhas hhas' hbad hfull hi
        go_wp2_with fail
        go_quiet (fail)
        go_wp2_with fail
        go_quiet (fail)
        go_wp2_with fail
        generalize hw5 : World.drewN w3 _ = w5
        have hW5 : WheelAt B w5 p F S := by rw [← hw5]; exact hW3.drewN _
        have hf5 : Fr F w w5 := by rw [← hw5]; exact hf3.drewN _
        have e0 : w5.cell? ⟨bd, 0, none⟩ = some (.int .i64 d.1) := by rw [← hw5]; exact d0
        have e1 : w5.cell? ⟨bd, 1, none⟩ = some (.int .i64 d.2) := by rw [← hw5]; exact d1
        have hs5 : bd < w5.heap.size := by rw [← hw5]; exact hs3
        clear hw5 hW3 hf3 d0 d1 cn cr hs3 h
        obtain ⟨vs, hv1, hv2⟩ := hW5.row
        obtain ⟨cv, hown, hblk⟩ := hv1 i hi64
        have fv := hW5.fz i
        have hp5 := hW5.p1
        have hBw5 : B ≤ w5.heap.size := Nat.le_trans hB (by have := hf5.size; omega)
        have hnp : (vs i).ownBlock ≠ some p := fun e => (hblk p e).2 rfl
        have hnb : (vs i).ownBlock ≠ some bd := fun e => hFb (hblk bd e).1
        have hli := hl i hi64
        obtain ⟨a, cap, hform⟩ := ownsRow_form hown
        obtain ⟨i0, ki, kz0, kz1, kz2⟩ := info_parts Try.info30
        have HV2 := Lib.hid hv2; clear hv2
        have HV1 := Lib.hid hv1; clear hv1
        have Hblk := Lib.hid hblk; clear hblk
        have hform' := Lib.hid hform
        rw [hform] at cv hown hnp hnb
        clear hform
        have hnews := Lib.hid (fun (W : World) => World.news_of_block (w := W) (B := w5.heap.size) (cs := #[.int .i64 d.1, .int .i64 d.2]) (t := 30) (fr := (0, 0)))
        have hck : ∀ (n : Nat) (o : Obj), ((w5.drewN n).alloc o).cell? ⟨p, i, none⟩ = some (.slice a (S.b i).length cap) := fun n o => by rw [Fr.cell (S := fun _ => False) (w := w5) (w' := (w5.drewN n).alloc o) (p := ⟨p, i, none⟩) (((Fr.refl _ w5).drewN _).alloc _) hp5 (by simp)]; exact cv
        have hfk : ∀ (n : Nat) (o : Obj), ((w5.drewN n).alloc o).frozen? ⟨p, i, none⟩ = false := fun n o => by rw [Fr.frozen (S := fun _ => False) (w := w5) (w' := (w5.drewN n).alloc o) (p := ⟨p, i, none⟩) (((Fr.refl _ w5).drewN _).alloc _) hp5 (by simp)]; exact fv
        go_region_law (first | (refine step_append_lies _ (by rfl) _ _ _ (by rfl) B 30 i0 _ 2 16 Try.underlying28 ki kz0 kz1 kz2 rfl (by omega) _ _ _ (by rfl) ((hown.alloc _).drew) ⟨w5.heap.size, 0, none⟩ 1 1 (dueC d) (by rfl) (by rfl) (World.news_of_block (cs := #[.int .i64 d.1, .int .i64 d.2]) (t := 30) (fr := (0, 0)) (heap_alloc_new w5 _)) (by simp [dueC, Value.oneCell']) (by omega) (by unfold maxLen; omega) (by omega) (by simp; omega) (w5.heap.size + 1) (by simp) ?_; intro gg cap2 w6 hown6 hgrow hat hlt; have G6 := grown_keep (w := w5) (p := p) hgrow (by repeat (first | exact Fr.refl _ _ | refine Fr.alloc ?_ _ | refine Fr.drew ?_ | refine Fr.drewN ?_ _)) hp5 hnp i; have cv6 := G6.1.trans cv; have fv6 := G6.2.trans fv; clear G6))
        all_goals
          have f6 : Fr (fun k => (Value.slice a (S.b i).length cap).ownBlock = some k) w5 w6 := by
            refine Fr.grown ?_ hgrow (fun g h _ => h)
            repeat (first | exact Fr.refl _ _ | refine Fr.alloc ?_ _ | refine Fr.drew ?_ | refine Fr.drewN ?_ _)
          have hbut := hW5.but_keep i hi64 cv f6
          have hgp : (Value.slice (some ⟨gg, 0, none⟩) ((S.b i).length + 1) cap2).ownBlock ≠ some p := by
            intro e
            simp only [Value.ownBlock, Option.some.injEq] at e
            subst e
            rcases hat with hat | hat
            · exact hnp hat
            · omega
          have hW7 := hbut.setRow hi64 (.slice (some ⟨gg, 0, none⟩) ((S.b i).length + 1) cap2) (S.b i ++ [d]) (by simpa using hown6) hgp (by
            intro j vj hj hji hcj g hg hg2
            simp only [Value.ownBlock, Option.some.injEq] at hg
            subst hg
            have hcj5 := (grown_keep (w := w5) (p := p) hgrow (by repeat (first | exact Fr.refl _ _ | refine Fr.alloc ?_ _ | refine Fr.drew ?_ | refine Fr.drewN ?_ _)) hp5 hnp j).1
            have e : vs j = vj := by rw [hcj, (HV1.out j hj).1] at hcj5; exact (Option.some.inj hcj5).symm
            rw [← e] at hg2
            rcases hat with hat | hat
            · exact HV2.out j i hj hi64 hji gg hg2 (by rw [hform'.out]; exact hat)
            · have := (hW5.flt gg ((HV1.out j hj).2.2 gg hg2).1).1
              omega)
          have hF7 : Fr F w (w6.setCell ⟨p, i, none⟩ (.slice (some ⟨gg, 0, none⟩) ((S.b i).length + 1) cap2)) := by
            refine Fr.setCell (p := ⟨p, i, none⟩) ?_ hW5.fp _
            exact hf5.trans f6 (fun _ _ h => h) (fun k hk h => (Hblk.out k (by rw [hform'.out]; exact h)).1)
          have hFn : ∀ k, (F k ∨ (Value.slice (some ⟨gg, 0, none⟩) ((S.b i).length + 1) cap2).ownBlock = some k) → F k ∨ bd ≤ k := by
            intro k hk
            rcases hk with hk | hk
            · exact .inl hk
            · simp only [Value.ownBlock, Option.some.injEq] at hk
              subst hk
              rcases hat with hat | hat
              · exact .inl (Hblk.out _ (by rw [hform'.out]; exact hat)).1
              · right; omega
          have HFn := Lib.hid hFn; clear hFn
          generalize w6.setCell ⟨p, i, none⟩ (.slice (some ⟨gg, 0, none⟩) ((S.b i).length + 1) cap2) = w7 at *
          have hF7' : Fr F w w7 := hF7
          clear hbut f6 cv6 fv6 hck hfk cv e0 e1 hgrow
          have cn := hW7.n
          have fn := hW7.fz 65
          have P := Lib.hid (hW7.setN (S.n + 1))
          have hnI : ((S.put i (S.b i ++ [d])).n : Int) = (S.n : Int) := rfl
          rw [hnI] at cn
          clear hnI
          go_wp2_with fail
          go_ret
          rw [E.out]
          exact ⟨rfl, _, P.out, HFn.out, hF7'.setCell (p := ⟨p, 65, none⟩) hW5.fp _⟩
end Go.Proofs.Ythmbbbdnfgefbaa
