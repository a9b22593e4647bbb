/- SLOTS: Clone, All, At, Depth, Free. -/
import Derived.Test.YtaogdgbijjjpjaaSL2
import Derived.Test.YtaogdgbijjjpjaaSortS
import Derived.Test.YtaogdgbijjjpjaaPutQ
namespace Go.Proofs.Ytaogdgbijjjpjaa
open Go.RowKit
set_option linter.unusedVariables false

theorem Try.info59 : (Try.prog.info? 59).map (fun i => (i.zero, i.size, i.bytes)) = some (some (.agg #[.int .i64 0, .int .i64 0, .int .i64 0, .int .i64 0]), 4, 32) := by kernel_rfl

theorem own_lit59 (W : World) (base g : Nat) (hg : g = W.heap.size) (hb : base ≤ W.heap.size) : (W.alloc (.cells #[] 59)).ownsRow base 59 4 (.slice (some ⟨g, 0, none⟩) 0 0) 0 (([] : List Q).flatMap qc) := by
  subst hg
  exact World.ownsRow_lit (size := 4) (e := 59) W #[] 0 hb (Nat.zero_le _) rfl

/-- A slice of slots, added to an empty row: the same slots, in a row of one's own. -/
theorem wp_copyS {B : Nat} {w W : World} {o : Oper} {a : Act} {K : Act → World → Prop} {Q' : Exit → Act → World → Prop} (s y : Operand)
    (ho : o.op = .call { callee := .builtin .append, args := #[s, y], argTypes := #[55, 55] }) (g n c : Nat) (ad : Option Addr) (l : List Q) (hs : a.eval s = .slice (some ⟨g, 0, none⟩) 0 0) (hy : a.eval y = .slice ad n c)
    (hg : g = w.heap.size) (hW : W = w.alloc (.cells #[] 59)) (hown : w.ownsRow B 59 4 (.slice ad n c) n (l.flatMap qc)) (hl : l.length = n) (hn : n ≤ 2000)
    (h : ∀ v' w', w'.ownsRow w.heap.size 59 4 v' n (l.flatMap qc) → Below w.heap.size w w' → K (a.put o.dst v') w') : o.wp Try.prog a W K Q' := by
  subst hW
  obtain ⟨i0, ki, kz0, kz1, kz2⟩ := info_parts Try.info59
  have hsrc : Src (w.alloc (.cells #[] 59)) (.slice ad n c) n (l.flatMap qc) := by
    rcases Nat.eq_zero_or_pos n with h0 | h0
    · subst h0
      have : l = [] := List.eq_nil_of_length_eq_zero hl
      subst this
      rcases ad with _ | ad
      · obtain ⟨_, h2⟩ := hown
        rcases h2 with ⟨hv, _⟩ | ⟨g', cap', cur, hv, _⟩
        · cases hv; exact .inl ⟨rfl, rfl⟩
        · cases hv
      · exact .inr ⟨ad, c, rfl, fun j u hu => by simp at hu⟩
    · obtain ⟨g', cap, hv, hg0, hg1, _, hcell, hfz⟩ := ownsRow_cells hown h0
      cases hv
      exact .inr ⟨⟨g', 0, none⟩, c, rfl, fun j u hu => by
        rw [add_none, Nat.zero_add]
        rw [World.cell?_alloc_lt _ _ _ (by exact hg1)]
        exact hcell j u hu⟩
  refine wp_append_row s y 55 ho w.heap.size 59 i0 _ 4 32 Try.underlying55 ki kz0 kz1 kz2 rfl (by omega) (.slice (some ⟨g, 0, none⟩) 0 0) 0 [] hs (own_lit59 w w.heap.size g hg (Nat.le_refl _)) (.slice ad n c) n (l.flatMap qc) hy (by rw [flat_length, hl]) hsrc (qc_one l) (by unfold maxLen; omega) (by omega) (by simp) ?_
  intro v' w' h2 h3 h4
  refine h v' w' (by simpa using h2) ?_
  exact Below.grown ((Below.refl _ w).alloc (Nat.le_refl _) _) h3 (by simp) fun k e => by simp [Value.ownBlock] at e; omega
theorem wpList_copyS {B : Nat} {w W : World} {ops : Array Oper} {rest : List Oper} {o : Oper} {a : Act} {Q' : Exit → Act → World → Prop} (hgd : o.guard = none) (s y : Operand)
    (ho : o.op = .call { callee := .builtin .append, args := #[s, y], argTypes := #[55, 55] }) (g n c : Nat) (ad : Option Addr) (l : List Q) (hs : a.eval s = .slice (some ⟨g, 0, none⟩) 0 0) (hy : a.eval y = .slice ad n c)
    (hg : g = w.heap.size) (hW : W = w.alloc (.cells #[] 59)) (hown : w.ownsRow B 59 4 (.slice ad n c) n (l.flatMap qc)) (hl : l.length = n) (hn : n ≤ 2000)
    (h : ∀ v' w', w'.ownsRow w.heap.size 59 4 v' n (l.flatMap qc) → Below w.heap.size w w' → wpList Try.prog ops Q' rest (a.put o.dst v') w') : wpList Try.prog ops Q' (o :: rest) a W :=
  wpList_plain hgd fun _ hK => wp_copyS s y ho g n c ad l hs hy hg hW hown hl hn fun v' w' h1 h2 => hK _ _ (h v' w' h1 h2)

set_option maxHeartbeats 1000000 in
set_option maxRecDepth 100000 in
theorem clone_any (B : Nat) (a : Option Addr) (c : Nat) (l : List Q) (w : World) (ho : w.ownsRow B 59 4 (.slice a l.length c) l.length (l.flatMap qc)) (hn : l.length ≤ 2000) :
    Calls Try.prog 52 #[.slice a l.length c] w fun e w' => ∃ (a' : Option Addr) (c' : Nat), e = .returned (.slice a' l.length c') ∧ w'.ownsRow w.heap.size 59 4 (.slice a' l.length c') l.length (l.flatMap qc) ∧ Below w.heap.size w w' := by
  have HO := Lib.hid ho
  have hf := ho.2
  clear ho
  cases a with
  | none =>
    have h0 : l.length = 0 := by
      rcases hf with ⟨hv, _⟩ | ⟨g', cap', cur, hv, _⟩
      · simp only [Value.slice.injEq] at hv; exact hv.2.1
      · simp at hv
    have hl : l = [] := List.eq_nil_of_length_eq_zero h0
    subst hl
    have R := fun w : World => Lib.run_eql_slice_nil (P := Try.prog) w 55 59 none 0 c 0 0 Try.underlying55
    clear hf h0
    go_enter Try.func52, Try.ntmps52
    go_wp2_with fail
    go_ret
    exact ⟨none, 0, rfl, World.ownsRow_nil _ _ _ _, Below.refl _ _⟩
  | some ad =>
    have R := fun w : World => Lib.run_eql_slice_nil (P := Try.prog) w 55 59 (some ad) l.length c 0 0 Try.underlying55
    clear hf
    go_enter Try.func52, Try.ntmps52
    go_wp2_with (at_builtin; refine wpList_copyS (B := B) (w := w) rfl _ _ rfl w.heap.size l.length c (some ad) l rfl rfl rfl rfl HO.out rfl hn ?_)
    intro v5 w5 hown5 hb5
    obtain ⟨a5, c5, rfl⟩ := ownsRow_form hown5
    have HO5 := Lib.hid hown5
    have HB5 := Lib.hid hb5
    clear hown5 hb5
    go_wp2_with fail
    go_ret
    exact ⟨a5, c5, rfl, HO5.out, HB5.out⟩

def SrtS (l : List Q) : Prop := l.Pairwise fun x y => ltS y x = false
set_option maxHeartbeats 1000000 in
set_option maxRecDepth 100000 in
theorem all_any {B : Nat} {w : World} {p : Nat} {F : Nat → Prop} {l : List Q} {room : Nat} (h : HA 59 B w p F l room) (hll : l.length ≤ 2000) :
    Calls Try.prog 37 #[.pointer (some ⟨p, 0, none⟩)] w fun e w' => ∃ (a : Option Addr) (c : Nat) (l' : List Q), e = .returned (.slice a l'.length c) ∧ l'.Perm l ∧ SrtS l' ∧ w'.ownsRow w.heap.size 59 4 (.slice a l'.length c) l'.length (l'.flatMap qc) ∧ Below w.heap.size w w' := by
  obtain ⟨a, c, hc, ho, _⟩ := h.row
  have C := Lib.hid (clone_any B a c l w ho hll)
  clear ho h
  go_enter Try.func37, Try.ntmps37
  go_wp2_with fail
  refine C.out.mono ?_
  rintro e w2 ⟨a2, c2, rfl, hown, hb⟩
  have S := Lib.hid (sort_ownS w.heap.size a2 l.length c2 l w2 hown rfl (by omega))
  have Hob := Lib.hid (ownsRow_block hown)
  have Hb := Lib.hid hb
  clear hown hb C
  go_wp2_with fail
  refine S.out.mono ?_
  rintro e w3 ⟨rfl, l', hp, hs, hown, hf⟩
  have hl := hp.length_eq
  have HS := Lib.hid hs
  have HP := Lib.hid hp
  have HW := Lib.hid hown
  have HF := Lib.hid hf
  have HL := Lib.hid hl
  clear hs hp hown hf hl S
  go_wp2_with fail
  go_ret
  refine ⟨a2, c2, l', by rw [HL.out]; rfl, HP.out, HS.out, by have := HW.out; rw [HL.out] at this ⊢; exact this, Hb.out.trans (HF.out.below (fun i hi h => ?_) Hb.out.size)⟩
  cases a2 with
  | none => simp at h
  | some x => exact Hob.out i (by simpa [Value.ownBlock] using h)

set_option maxHeartbeats 1000000 in
set_option maxRecDepth 100000 in
theorem at_any {B : Nat} {w : World} {p : Nat} {F : Nat → Prop} {l : List Q} {room : Nat} (h : HA 59 B w p F l room) (hll : l.length ≤ 2000) (t : Int) :
    Calls Try.prog 38 #[.pointer (some ⟨p, 0, none⟩), .int .i64 t] w fun e w' => ∃ (a : Option Addr) (c : Nat) (l' : List Q), e = .returned (.slice a (l'.filter fun x => !atOut t x).length c) ∧ l'.Perm l ∧ SrtS l' ∧
      w'.ownsRow w.heap.size 59 4 (.slice a (l'.filter fun x => !atOut t x).length c) (l'.filter fun x => !atOut t x).length ((l'.filter fun x => !atOut t x).flatMap qc) ∧ Below w.heap.size w w' := by
  have hb1 : Below w.heap.size w (w.alloc (.cells #[.int .i64 t] 3)) := (Below.refl _ _).alloc (Nat.le_refl _) _
  have hsz : (w.alloc (.cells #[.int .i64 t] 3)).heap.size = w.heap.size + 1 := by simp
  have hc := cell_newb w #[.int .i64 t] 3 _ 0 _ rfl rfl
  have A := Lib.hid (all_any (h.keep (Fr.of_below (S := fun _ => False) hb1) (by simp)) hll)
  have Hc := Lib.hid hc
  have Hb1 := Lib.hid hb1
  clear h hc hb1
  go_enter Try.func38, Try.ntmps38
  go_wp2_with fail
  generalize w.alloc (.cells #[.int .i64 t] 3) = w1 at *
  refine A.out.mono ?_
  rintro e w2 ⟨a2, c2, l', rfl, hp, hs, hown, hb2⟩
  have eg : ∀ args w, (callFunc 55 args).run Try.prog w = .ok (.enter 55 args) w := enters_of Try.func55 (by kernel_rfl) rfl
  have hlt : w.heap.size < w1.heap.size := by omega
  have hl := hp.length_eq
  have D := Lib.hid (delete_any w1.heap.size a2 c2 l' (atOut t) 55 #[.pointer (some ⟨w.heap.size, 0, none⟩)] w2 eg hown (by omega) fun W hW x => atPred_any x t w.heap.size W (by
    rw [hW.cell (p := ⟨w.heap.size, 0, none⟩) (Nat.lt_of_lt_of_le hlt hb2.size) (fun e => Nat.not_le_of_lt hlt (ownsRow_block hown _ e)), hb2.cell (p := ⟨w.heap.size, 0, none⟩) hlt]
    exact Hc.out))
  have Hob := Lib.hid (ownsRow_block hown)
  have Hp := Lib.hid hp
  have Hs := Lib.hid hs
  have Hb2 := Lib.hid (Hb1.out.trans (hb2.mono (by omega)))
  clear eg hp hs hown hb2 A hl
  go_wp2_with fail
  refine D.out.mono ?_
  rintro e w3 ⟨rfl, ho3, hf3⟩
  have Ho3 := Lib.hid ho3
  have Hf3 := Lib.hid hf3
  clear ho3 hf3 D
  go_wp2_with fail
  go_ret
  exact ⟨a2, c2, l', rfl, Hp.out, Hs.out, ownsRow_base Ho3.out (by omega), Hb2.out.trans (Hf3.out.below (fun i hi h => by have := Hob.out i h; omega) Hb2.out.size)⟩

set_option maxHeartbeats 1000000 in
set_option maxRecDepth 100000 in
theorem depth_any {B : Nat} {w : World} {p : Nat} {F : Nat → Prop} {l : List Q} {room : Nat} (h : HA 59 B w p F l room) (hll : l.length ≤ 2000) (t : Int) :
    Calls Try.prog 39 #[.pointer (some ⟨p, 0, none⟩), .int .i64 t] w fun e w' => e = .returned (.int .i64 (l.filter fun x => !atOut t x).length) ∧ Below w.heap.size w w' := by
  have A := Lib.hid (at_any h hll t)
  clear h
  go_enter Try.func39, Try.ntmps39
  go_wp2_with fail
  refine A.out.mono ?_
  rintro e w2 ⟨a2, c2, l', rfl, hp, hs, hown, hb2⟩
  have Hl := Lib.hid ((hp.filter fun x => !atOut t x).length_eq)
  have Hb := Lib.hid hb2
  clear hp hs hown hb2 A
  go_wp2_with fail
  go_ret
  exact ⟨ret_int (by rw [Hl.out]), Hb.out⟩

set_option maxHeartbeats 1000000 in
set_option maxRecDepth 100000 in
theorem sfree_any {B : Nat} {w : World} {p : Nat} {F : Nat → Prop} {l : List Q} {room : Nat} (h : HA 59 B w p F l room) (hll : l.length ≤ 2000) (id : Int) :
    Calls Try.prog 32 #[.pointer (some ⟨p, 0, none⟩), .int .i64 id] w fun e w' => e = .returned (.int .i64 (if (l.any fun x => x.1 == id) = true then 0 else 4)) ∧ HA 59 B w' p F (l.filter fun x => !(x.1 == id)) room ∧ Fr F w w' := by
  have hb1 : Below w.heap.size w (w.alloc (.cells #[.int .i64 id] 3)) := (Below.refl _ _).alloc (Nat.le_refl _) _
  have hc := cell_newb w #[.int .i64 id] 3 _ 0 _ rfl rfl
  have hsz : (w.alloc (.cells #[.int .i64 id] 3)).heap.size = w.heap.size + 1 := by simp
  have h1 := h.keep (Fr.of_below (S := fun _ => False) hb1) (by simp)
  have hflt := h.flt
  have A := Lib.hid (has_any h1 id)
  have Hf1 : Hid (Fr F w (w.alloc (.cells #[.int .i64 id] 3))) := Fr.of_below hb1
  have H1 := Lib.hid h1
  cases hany : l.any fun x => x.1 == id
  · have hfl : (l.filter fun x => !(x.1 == id)) = l := List.filter_eq_self.2 fun d hd => by simpa using List.any_eq_false.1 hany d hd
    rw [hany] at A
    rw [hfl, if_neg (by simp)]
    clear hany hfl hc hb1 h h1 hflt hsz
    go_enter Try.func32, Try.ntmps32
    go_wp2_with fail
    refine A.out.mono ?_
    rintro e w2 ⟨rfl, hb2⟩
    have Hb2 := Lib.hid hb2
    clear hb2 A
    go_wp2_with fail
    go_ret
    exact ⟨rfl, H1.out.keep (Fr.of_below (S := fun _ => False) Hb2.out) (by simp), Hf1.out.trans (T := fun _ => False) (U := F) (Fr.of_below Hb2.out) (fun _ _ h => h) (by simp)⟩
  · rw [hany] at A
    rw [if_pos rfl]
    have Hc := Lib.hid hc
    have HFlt := Lib.hid hflt
    clear hany hb1 h h1 hc hflt
    go_enter Try.func32, Try.ntmps32
    go_wp2_with fail
    generalize w.alloc (.cells #[.int .i64 id] 3) = w1 at *
    refine A.out.mono ?_
    rintro e w2 ⟨rfl, hb2⟩
    have h2 : HA 59 B w2 p F l room := H1.out.keep (Fr.of_below (S := fun _ => False) hb2) (by simp)
    have hf2 : Fr F w w2 := Hf1.out.trans (T := fun _ => False) (U := F) (Fr.of_below hb2) (fun _ _ h => h) (by simp)
    have hlt : w.heap.size < w1.heap.size := by omega
    have hcid : w2.cell? ⟨w.heap.size, 0, none⟩ = some (.int .i64 id) := by rw [hb2.cell (p := ⟨w.heap.size, 0, none⟩) hlt]; exact Hc.out
    have hlt2 : w.heap.size < w2.heap.size := Nat.lt_of_lt_of_le hlt hb2.size
    obtain ⟨a, c, hrow, ho, hown⟩ := h2.row
    have eg : ∀ args w, (callFunc 50 args).run Try.prog w = .ok (.enter 50 args) w := enters_of Try.func50 (by kernel_rfl) rfl
    have D := Lib.hid (delete_any B a c l (fun x => x.1 == id) 50 #[.pointer (some ⟨w.heap.size, 0, none⟩)] w2 eg ho (by omega) fun W hW x => outPred_any x id w.heap.size W (by
      rw [hW.cell (p := ⟨w.heap.size, 0, none⟩) hlt2 (fun e => by have := (HFlt.out _ (hown _ e).1).1; simp at this)]
      exact hcid))
    have H2 := Lib.hid h2
    have Hf2 := Lib.hid hf2
    have Hown := Lib.hid hown
    have fp0 := h2.fz 0
    clear eg ho hown h2 hf2 hb2 A Hc hcid
    go_wp2_with fail
    refine D.out.mono ?_
    rintro e w3 ⟨rfl, ho3, hf3⟩
    have hp3 : ¬ (Value.slice a l.length c).ownBlock = some p := fun e => (Hown.out p e).2 rfl
    have c3 : w3.cell? ⟨p, 0, none⟩ = some (.slice a l.length c) := by rw [hf3.cell (p := ⟨p, 0, none⟩) H2.out.p1 hp3]; exact hrow
    have z3 : w3.frozen? ⟨p, 0, none⟩ = false := by rw [hf3.frozen (p := ⟨p, 0, none⟩) H2.out.p1 hp3]; exact fp0
    have Ho3 := Lib.hid ho3
    have Hf3 := Lib.hid hf3
    have hob : ∀ k, (Value.slice a (l.filter fun x => !(x.1 == id)).length c).ownBlock = some k → (Value.slice a l.length c).ownBlock = some k := fun k e => by
      cases a with
      | none => simp [Value.ownBlock] at e
      | some x => exact e
    have hlen3 : p < w3.heap.size := Nat.lt_of_lt_of_le H2.out.p1 hf3.size
    have HOB := Lib.hid hob
    clear ho3 hf3 D fp0 hrow hob
    go_wp2_with fail
    go_ret
    have hfs : Fr (· = p) w3 (w3.setCell ⟨p, 0, none⟩ (.slice a (l.filter fun x => !(x.1 == id)).length c)) := (Fr.refl (· = p) w3).setCell (p := ⟨p, 0, none⟩) rfl _
    refine ⟨rfl, ?_, ?_⟩
    · refine ⟨by simpa [World.setCell] using hlen3, H2.out.fp, fun k hk => ⟨?_, (H2.out.flt k hk).2⟩, ?_, fun o => ?_, a, c, World.cell?_setCell_same _ _ _ c3, ?_, fun g hg => Hown.out g (HOB.out g hg)⟩
      · have := (H2.out.flt k hk).1
        have h3 := Hf3.out.size
        have h4 := hfs.size
        omega
      · rw [World.cell?_setCell_other _ _ _ _ (addr_ne (by omega)), Hf3.out.cell (p := ⟨p, 1, none⟩) H2.out.p1 hp3]
        exact H2.out.room
      · rw [World.frozen?_setCell, Hf3.out.frozen (p := ⟨p, o, none⟩) H2.out.p1 hp3]
        exact H2.out.fz o
      · refine ownsRow_keep Ho3.out fun k hk => hfs.block k (ownsRow_lt Ho3.out k hk) (fun e => ?_)
        subst e
        exact hp3 (HOB.out _ hk)
    · exact (Hf2.out.trans (U := F) Hf3.out (fun _ _ h => h) (fun i _ h => (Hown.out i h).1)).trans (U := F) hfs (fun _ _ h => h) (fun i _ h => by subst h; exact H2.out.fp)
end Go.Proofs.Ytaogdgbijjjpjaa
